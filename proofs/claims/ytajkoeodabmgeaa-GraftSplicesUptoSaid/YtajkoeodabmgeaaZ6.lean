import Derived.Test.YtajkoeodabmgeaaZ5
import Derived.RangeFuncNested
import Derived.RangeFuncBound
import Derived.RangeFuncCalls
import Derived.RangeFuncLeaves
import Derived.Shelf.Abstract
import Derived.Shelf.RegionOpen
import Derived.WalkKit
import Derived.OwnWalkIn
import Derived.TacticsInMore
import Derived.LoopNIn
import Derived.LoopIn
import Derived.Stop.RegionWithIn

section
namespace Go.Proofs.Ytajkoeodabmgeaa
open Go.RowKit
set_option maxHeartbeats 2000000
set_option maxRecDepth 100000
attribute [local go_sem] grow_cell grow_frozen grow_size

theorem weigh_c (pg wd : Int) (Bf : Nat) (A0 A1 A2 : Option Addr) (c0 c1 c2 : Nat) (nd : NodeD) (w : World) (hN : RdN w A0 c0 A1 c1 A2 c2 nd)
    (hc0 : w.cell? ⟨Bf, 0, none⟩ = some (.int .i64 pg)) (hc1 : w.cell? ⟨Bf, 1, none⟩ = some (.int .i64 wd)) :
    Calls Try.prog 75 #[vN A0 c0 A1 c1 A2 c2 nd, .pointer (some ⟨Bf, 0, none⟩)] w fun e w' => e = .returned (.int .i64 (sizeE pg wd nd)) ∧ Below w.heap.size w w' := by
  have hlt : Bf < w.heap.size := World.block_lt_of_cell? _ _ hc0
  have hlt1 : Bf < w.heap.size + 1 := by omega
  have HN := Lib.hid hN
  clear hN
  go_enter Try.func75, Try.ntmps75
  go_wp2_with (first
    | (go_at_call 40; refine (Size_c pg wd A0 A1 A2 c0 c1 c2 nd _ (HN.out.below ((Below.refl _ _).alloc (Nat.le_refl _) _))).mono ?_; rintro e w1 ⟨rfl, hb⟩))
  go_ret
  exact ⟨rfl, below_a hb⟩

theorem cuts_c (pg wd : Int) (A0 A1 A2 : Option Addr) (c0 c1 c2 : Nat) (nd : NodeD) (w : World) :
    Calls Try.prog 31 #[vF pg wd, vN A0 c0 A1 c1 A2 c2 nd] w fun e w' => e = .returned (.func (.func 73) #[] #[.pointer (some ⟨w.heap.size, 0, none⟩), .pointer (some ⟨w.heap.size + 1, 0, none⟩)]) ∧
      w' = (w.alloc (.cells #[.int .i64 pg, .int .i64 wd] 24)).alloc (.cells #[.slice A0 nd.pairs.length c0, .slice A1 nd.seps.length c1, .slice A2 nd.kids.length c2] 29) := by
  have hmf : ∀ (fn : Fn) (first cap : Array Value) (w : World), (Instr.makeFunc fn first cap).run Try.prog w = .ok (.func fn first cap) w := fun _ _ _ _ => rfl
  go_enter Try.func31, Try.ntmps31
  go_wp2
  go_ret
  exact ⟨rfl, rfl⟩

end Go.Proofs.Ytajkoeodabmgeaa
end

section
namespace Go.Proofs.Ytajkoeodabmgeaa
open Go.RowKit Go.Shelf
set_option maxHeartbeats 2000000
set_option maxRecDepth 100000
attribute [local go_sem] Oper.semAt_some

theorem grown_below {w w' : World} (h : Below w.heap.size w w') : w.grownBy w' none :=
  ⟨h.os, h.tape, h.output, h.size, fun k hk _ => h.block k hk⟩

theorem abides_below {β : Type} {B : Nat} {J : β → World → Prop} (hJ : AbidesFrom B J) {s : β} {W W' : World} (h : J s W) (hb : Below W.heap.size W W') : J s W' :=
  hJ s W W' none h (grown_below hb) (fun r e => by cases e)

def firstN (nd : NodeD) : Nat := if nd.kids.length = 0 then 1 else 2
def cutsN (nd : NodeD) : Nat := if nd.kids.length = 0 then nd.pairs.length - 1 else nd.kids.length - 3
/-- The places where a node may be cut. -/
def places (pg wd : Int) (nd : NodeD) : List Nat := if checkE pg wd nd = 0 then (List.range (cutsN nd)).map (firstN nd + ·) else []
def encCut (pg wd : Int) (nd : NodeD) (k : Nat) : Array Value := #[.int .i64 k, .agg #[.int .i64 (sizeE pg wd (halvesL nd k)), .int .i64 (sizeE pg wd (halvesR nd k))]]

theorem cuts_none (n : Nat) (hn : 1 ≤ n) (pg wd : Int) (A0 A1 A2 : Option Addr) (c0 c1 c2 : Nat) (nd : NodeD) (Bf Bn : Nat) (K : World → World → Prop) (w : World) (hc : checkE pg wd nd ≠ 0)
    (hN : ∀ W, Below w.heap.size w W → RdN W A0 c0 A1 c1 A2 c2 nd) (hf0 : w.cell? ⟨Bf, 0, none⟩ = some (.int .i64 pg)) (hf1 : w.cell? ⟨Bf, 1, none⟩ = some (.int .i64 wd))
    (hn0 : w.cell? ⟨Bn, 0, none⟩ = some (.slice A0 nd.pairs.length c0)) (hn1 : w.cell? ⟨Bn, 1, none⟩ = some (.slice A1 nd.seps.length c1)) (hn2 : w.cell? ⟨Bn, 2, none⟩ = some (.slice A2 nd.kids.length c2)) :
    SeqStopsK Fence.wide n Try.prog 73 #[.pointer (some ⟨Bf, 0, none⟩), .pointer (some ⟨Bn, 0, none⟩)] (encCut pg wd nd) K (fun xs => xs = places pg wd nd) (fun pre => pre <+: places pg wd nd) (places pg wd nd).length w := fun l J Jx W hW hJ hJx hY h0 => by
  clear hY hJx
  have hpl : places pg wd nd = [] := by simp [places, hc]
  have HPL := Lib.hid hpl
  have b1 : Bf < w.heap.size := World.block_lt_of_cell? _ _ hf0
  have b2 : Bn < w.heap.size := World.block_lt_of_cell? _ _ hn0
  have HN := Lib.hid hN
  have HJ := Lib.hid hJ
  have H0 := Lib.hid h0
  clear hpl hN hJ h0
  have q0 := (hW.cell (p := ⟨Bf, 0, none⟩) b1).trans hf0
  have q1 := (hW.cell (p := ⟨Bf, 1, none⟩) b1).trans hf1
  have HB := Lib.hid hW
  have r0 := (hW.cell (p := ⟨Bn, 0, none⟩) b2).trans hn0
  have r1 := (hW.cell (p := ⟨Bn, 1, none⟩) b2).trans hn1
  have r2 := (hW.cell (p := ⟨Bn, 2, none⟩) b2).trans hn2
  have b3 : Bf < W.heap.size := World.block_lt_of_cell? _ _ q0
  have b4 : Bn < W.heap.size := World.block_lt_of_cell? _ _ r0
  clear hW
  cases hr : right pg wd with
  | false =>
    have HR := Lib.hid hr
    clear hr
    refine callsIn_of_wp Try.func73 rfl trivial ?_ rfl
    simp only [Try.ntmps73, List.size_toArray, List.length_cons, List.length_nil, Nat.reduceAdd, Nat.reduceSub, Array.replicate_succ, Array.replicate_zero, List.push_toArray, List.append_toArray, List.nil_append, List.cons_append]
    gi_wp2_with (first
      | (refine ⟨trivial, ?_⟩; gi_at_call 61; refine (callsIn_wide.2 (frame_v pg wd _ _ HR.out)).mono ?_; rintro e w1 ⟨rfl, hb⟩))
    refine ⟨trivial, ?_⟩
    gi_wp2
    refine bodyPost_ret (results_none rfl _ _ _) rfl ?_
    exact ⟨⟨_, rfl⟩, .inl ⟨[], HPL.out.symm, abides_below HJ.out H0.out hb⟩⟩
  | true =>
    have HR := Lib.hid hr
    have hce : (checkE pg wd nd != 0) = true := by simpa using hc
    clear hr hc
    refine callsIn_of_wp Try.func73 rfl trivial ?_ rfl
    simp only [Try.ntmps73, List.size_toArray, List.length_cons, List.length_nil, Nat.reduceAdd, Nat.reduceSub, Array.replicate_succ, Array.replicate_zero, List.push_toArray, List.append_toArray, List.nil_append, List.cons_append]
    gi_wp2_with (first
      | (refine ⟨trivial, ?_⟩; gi_at_call 61; refine (callsIn_wide.2 (frame_v pg wd _ _ HR.out)).mono ?_; rintro e w1 ⟨rfl, hb⟩; have q2 := (hb.cell (p := ⟨Bf, 0, none⟩) b3).trans q0; have q3 := (hb.cell (p := ⟨Bf, 1, none⟩) b3).trans q1; have q4 := (hb.cell (p := ⟨Bn, 0, none⟩) b4).trans r0; have q5 := (hb.cell (p := ⟨Bn, 1, none⟩) b4).trans r1; have q6 := (hb.cell (p := ⟨Bn, 2, none⟩) b4).trans r2)
      | (refine ⟨trivial, ?_⟩; gi_at_call 74; refine (callsIn_wide.2 (check_c pg wd A0 A1 A2 c0 c1 c2 nd _ ((HN.out _ HB.out).below hb))).mono ?_; rintro e w2 ⟨rfl, hb2⟩))
    refine bodyPost_ret (results_none rfl _ _ _) rfl ?_
    exact ⟨⟨_, rfl⟩, .inl ⟨[], HPL.out.symm, abides_below HJ.out H0.out (hb.trans (hb2.mono hb.size))⟩⟩

end Go.Proofs.Ytajkoeodabmgeaa
end

section
namespace Go.Proofs.Ytajkoeodabmgeaa
open Go.RowKit Go.Shelf
set_option maxHeartbeats 2000000
set_option maxRecDepth 100000
attribute [local go_sem] Oper.semAt_some

theorem Oper.about_store {P : Program} {o : Oper} {w : World} {ρ : Operand → Value} (ty : TypeId) (x y : Operand) (ho : o.op = .store ty x y) : o.about P w ρ = none := by
  unfold Oper.about
  simp only [ho]

theorem wpListIn_store_row {F : Fence} {n : Nat} {P : Program} {ops : Array Oper} {rest : List Oper} {o : Oper} {a : Act} {w : World} {Q : Exit → Act → World → Prop} (hro : F.round = none) (hgd : o.guard = none) (ty : TypeId) (x y : Operand) (ho : o.op = .store ty x y)
    (g : Nat) (cells : Array Value) (hx : a.eval x = .pointer (some ⟨g, 0, none⟩)) (hy : a.eval y = .agg cells)
    (t : TypeId) (old : Array Value) (hg : w.heap[g]? = some (.cells old t (0, 0))) (hi : (P.info? ty).map (·.size) = some cells.size)
    (hold : old.size = cells.size) (h1 : cells.all (·.oneCell') = true)
    (h : wpListIn F n P ops Q rest (a.put o.dst undef) (w.setRow g cells)) : wpListIn F n P ops Q (o :: rest) a w :=
  wpListIn_plain hgd fun K hK => by
    unfold Oper.wpIn
    refine ⟨fun f hf => (by rw [Oper.about_store ty x y ho] at hf; cases hf), ?_⟩
    rw [hro, Oper.semAt_none]
    unfold execOp
    simp only [ho, hx, hy, Instr.storeAt, Instr.sureAddr, Sem.run_bind, Sem.run_pure, Result.andThen_ok, run_storeVar_row w g t ty old cells hg hi hold h1]
    exact hK _ _ h

theorem shaped_cut {pg : Int} {wd : Nat} {nd : NodeD} (h : shaped pg wd nd) (j : Nat) (hj : j < cutsN nd) : cutOk nd (firstN nd + j) := by
  unfold shaped at h
  unfold cutsN at hj
  unfold cutOk firstN
  by_cases hk : nd.kids.length = 0
  · simp only [hk, if_true] at hj ⊢
    omega
  · simp only [hk, if_false] at hj ⊢
    rw [if_neg (show ¬ leafD nd from fun hq => hk hq.2)] at h
    omega

theorem ends_cuts (nd : NodeD) : endsA nd = (firstN nd : Nat) ∧ (∀ j : Nat, j < cutsN nd → ((firstN nd + j : Nat) : Int) ≤ endsZ nd) ∧ endsZ nd < ((firstN nd + cutsN nd : Nat) : Int) := by
  unfold endsA endsZ firstN cutsN
  by_cases hk : nd.kids.length = 0
  · simp only [hk, if_true]; refine ⟨rfl, fun j hj => ?_, ?_⟩ <;> omega
  · simp only [hk, if_false]; refine ⟨rfl, fun j hj => ?_, ?_⟩ <;> omega

theorem box7 {w : World} {g : Nat} {a b c d e f h : Value} {fr : Nat × Nat} (hg : w.heap[g]? = some (.cells #[a, b, c, d, e, f, h] 54 fr)) :
    (w.cell? ⟨g, 0, none⟩ = some a ∧ w.cell? ⟨g, 1, none⟩ = some b ∧ w.cell? ⟨g, 2, none⟩ = some c) ∧ (w.cell? ⟨g, 4, none⟩ = some e ∧ w.cell? ⟨g, 5, none⟩ = some f ∧ w.cell? ⟨g, 6, none⟩ = some h) :=
  ⟨⟨cell_of_row _ _ 0 _ _ _ hg, cell_of_row _ _ 1 _ _ _ hg, cell_of_row _ _ 2 _ _ _ hg⟩, cell_of_row _ _ 4 _ _ _ hg, cell_of_row _ _ 5 _ _ _ hg, cell_of_row _ _ 6 _ _ _ hg⟩
def upTo (f k : Nat) : List Nat := (List.range k).map (f + ·)
theorem upTo_succ (f k : Nat) : upTo f (k + 1) = upTo f k ++ [f + k] := by simp [upTo, List.range_succ]
theorem upTo_length (f k : Nat) : (upTo f k).length = k := by simp [upTo]
theorem upTo_prefix (f : Nat) {k n : Nat} (h : k ≤ n) : upTo f k <+: upTo f n := by
  rw [show upTo f k = (upTo f n).take k by simp [upTo, ← List.map_take, List.take_range, Nat.min_eq_left h]]
  exact List.take_prefix _ _
theorem own7 (x y : VH) (L R : NodeD) (s : ByteArray) : (#[.slice x.A0 L.pairs.length x.c0, .slice x.A1 L.seps.length x.c1, .slice x.A2 L.kids.length x.c2, .string s, .slice y.A0 R.pairs.length y.c0, .slice y.A1 R.seps.length y.c1, .slice y.A2 R.kids.length y.c2] : Array Value).all (·.oneCell') = true := by simp [Value.oneCell']
abbrev zero7 : Array Value := #[.slice none 0 0, .slice none 0 0, .slice none 0 0, .string ⟨#[]⟩, .slice none 0 0, .slice none 0 0, .slice none 0 0]

theorem cuts_some (n : Nat) (hn : 1 ≤ n) (pg wd : Int) (A0 A1 A2 : Option Addr) (c0 c1 c2 : Nat) (nd : NodeD) (Bf Bn n₀ : Nat) (w : World) (hc : checkE pg wd nd = 0) (hw0 : n₀ ≤ w.heap.size)
    (K : World → World → Prop) (hKt : ∀ {A B C : World}, K A B → K B C → K A C) (hK0 : ∀ {A B : World}, Below n₀ A B → K A B) (hKs : ∀ {A B : World}, K A B → A.heap.size ≤ B.heap.size)
    (hN : ∀ W, K w W → RdN W A0 c0 A1 c1 A2 c2 nd) (hF : ∀ W, K w W → W.cell? ⟨Bf, 0, none⟩ = some (.int .i64 pg) ∧ W.cell? ⟨Bf, 1, none⟩ = some (.int .i64 wd))
    (hnn : ∀ W, K w W → W.cell? ⟨Bn, 0, none⟩ = some (.slice A0 nd.pairs.length c0) ∧ W.cell? ⟨Bn, 1, none⟩ = some (.slice A1 nd.seps.length c1) ∧ W.cell? ⟨Bn, 2, none⟩ = some (.slice A2 nd.kids.length c2)) :
    SeqStopsK Fence.wide n Try.prog 73 #[.pointer (some ⟨Bf, 0, none⟩), .pointer (some ⟨Bn, 0, none⟩)] (encCut pg wd nd) K (fun xs => xs = places pg wd nd) (fun pre => pre <+: places pg wd nd) (places pg wd nd).length w := fun l J Jx W hW hJ hJx hY h0 => by
  have hpl : places pg wd nd = (List.range (cutsN nd)).map (firstN nd + ·) := by simp [places, hc]
  obtain ⟨hr, hsh⟩ := checkE_zero hc
  obtain ⟨he1, he2, he3⟩ := ends_cuts nd
  have hok := fun j hj => shaped_cut hsh j hj
  have hsz : firstN nd + cutsN nd ≤ 5000000000000 := by
    have h1 := (hN w (hK0 (Below.refl _ _))).hp
    have h2 := (hN w (hK0 (Below.refl _ _))).hk
    unfold firstN cutsN
    split <;> omega
  have hW := hK0 (hW.mono hw0)
  have HPL := Lib.hid hpl
  have HOK := Lib.hid hok
  have HN := Lib.hid hN
  have HJ := Lib.hid hJ
  have HX := Lib.hid hJx
  have H0 := Lib.hid h0
  have HY := Lib.hid hY
  have HR := Lib.hid hr
  have HC := Lib.hid hc
  have HE2 := Lib.hid he2
  clear hpl hok hN hJ hJx h0 hY hr hsh hc he2
  have HFF := Lib.hid hF
  have HNN := Lib.hid hnn
  clear hF hnn
  have hmf : ∀ (fn : Fn) (first cap : Array Value) (w : World), (Instr.makeFunc fn first cap).run Try.prog w = .ok (.func fn first cap) w := fun _ _ _ _ => rfl
  obtain ⟨q0, q1⟩ := HFF.out _ hW
  obtain ⟨q2, q3, q4⟩ := HNN.out _ hW
  refine callsIn_of_wp Try.func73 rfl trivial ?_ rfl
  simp only [Try.ntmps73, List.size_toArray, List.length_cons, List.length_nil, Nat.reduceAdd, Nat.reduceSub, Array.replicate_succ, Array.replicate_zero, List.push_toArray, List.append_toArray, List.nil_append, List.cons_append]
  gi_wp2_with (first
    | (refine ⟨trivial, ?_⟩; gi_at_call 61; refine (callsIn_wide.2 (frame_v pg wd _ _ HR.out)).mono ?_; rintro e w1 ⟨rfl, hb1⟩; have hB1 := hKt hW (hK0 (hb1.mono (Nat.le_trans hw0 (hKs hW)))); clear q0 q1 q2 q3 q4; obtain ⟨q0, q1⟩ := HFF.out _ hB1; obtain ⟨q2, q3, q4⟩ := HNN.out _ hB1)
    | (refine ⟨trivial, ?_⟩; gi_at_call 74; refine (callsIn_wide.2 (check_v pg wd A0 A1 A2 c0 c1 c2 nd _ (HN.out _ hB1) _ HC.out)).mono ?_; rintro e w2 ⟨rfl, hb2⟩; have hB2 := hKt hB1 (hK0 (hb2.mono (Nat.le_trans hw0 (hKs hB1)))); clear q0 q1 q2 q3 q4; obtain ⟨q0, q1⟩ := HFF.out _ hB2; obtain ⟨q2, q3, q4⟩ := HNN.out _ hB2)
    | (refine ⟨trivial, ?_⟩; gi_at_call 76; refine (callsIn_wide.2 (ends_c A0 A1 A2 c0 c1 c2 nd _ (HN.out _ hB2))).mono ?_; rintro e w3 ⟨rfl, hb3⟩; have hB3 := hKt hB2 (hK0 (hb3.mono (Nat.le_trans hw0 (hKs hB2)))); clear q0 q1 q2 q3 q4))
  gi_loopw [7] (fun i wr => ∃ k : Nat, k ≤ cutsN nd ∧ i = .int .i64 ((firstN nd + k : Nat) : Int) ∧ J (upTo (firstN nd) k) wr ∧ K w wr) (fun i _ => (firstN nd + cutsN nd) - (intOf i).toNat)
  case atStart => exact ⟨0, Nat.zero_le _, rfl, abides_below HJ.out H0.out ((hb1.trans (hb2.mono hb1.size)).trans (hb3.mono (Nat.le_trans hb1.size hb2.size))), hB3⟩
  case round =>
    clear hB1 hB2 hB3 hb1 hb2 hb3
    obtain ⟨k, hk, rfl, hJs, hB⟩ := hrel
    obtain ⟨q0, q1⟩ := HFF.out _ hB
    obtain ⟨q2, q3, q4⟩ := HNN.out _ hB
    by_cases hlt : k < cutsN nd
    · have hle : ((firstN nd + k : Nat) : Int) ≤ endsZ nd := HE2.out k hlt
      have hkk := Lib.hid (HOK.out k hlt)
      have HJS := Lib.hid hJs
      clear hJs
      generalize hKe : firstN nd + k = M at *
      have HYK : Hid (∀ W1, Below wr.heap.size wr W1 → K w W1 → ∃ fn tmps assign body, (Instr.yield l (encCut pg wd nd M)).run Try.prog W1 = .ok (.round l fn tmps assign body) W1 ∧ RoundIn Fence.wide (n - 1) Try.prog l fn tmps assign body W1 (fun e W' => ∃ b : Bool, e = .returned (.bool b) ∧ Hid (if b = true then J (upTo (firstN nd) (k + 1)) W' ∧ K w W' else Jx (upTo (firstN nd) (k + 1)) W'))) := Lib.hid (by
        intro W1 h1 h2
        obtain ⟨fn, tmps, assign, body, hy, hR⟩ := HY.out (upTo (firstN nd) k) M W1 (abides_below HJ.out HJS.out h1) (by rw [upTo_length, HPL.out]; simpa using hlt)
        refine ⟨fn, tmps, assign, body, hy, hR.mono ?_⟩
        rintro e W' (⟨rfl, h3, h4⟩ | ⟨rfl, h3⟩)
        · exact ⟨true, rfl, Lib.hid (by rw [if_pos rfl, upTo_succ, hKe]; exact ⟨h3, hKt h2 h4⟩)⟩
        · exact ⟨false, rfl, Lib.hid (by rw [if_neg (by decide), upTo_succ, hKe]; exact h3)⟩)
      have HKE := Lib.hid hKe
      clear hKe
      gi_wp2_with (first
        | (refine ⟨trivial, ?_⟩; gi_at_call 77; refine (callsIn_wide.2 (halves_c A0 A1 A2 c0 c1 c2 nd M _ (HN.out _ hB) hkk.out)).mono ?_; rintro e w4 ⟨x, y, mid, rfl, hx, hy, hb4, _⟩; have HX4 := Lib.hid hx; have HY4 := Lib.hid hy; clear hx hy))
      have hB4 := hKt hB (hK0 (hb4.mono (Nat.le_trans hw0 (hKs hB))))
      obtain ⟨W5, hW5⟩ : ∃ W5, W5 = w4.alloc (.cells #[.slice x.A0 (halvesL nd M).pairs.length x.c0, .slice x.A1 (halvesL nd M).seps.length x.c1, .slice x.A2 (halvesL nd M).kids.length x.c2, .string (halvesS nd M), .slice y.A0 (halvesR nd M).pairs.length y.c0, .slice y.A1 (halvesR nd M).seps.length y.c1, .slice y.A2 (halvesR nd M).kids.length y.c2] 54) := ⟨_, rfl⟩
      have hg5 : W5.heap[w4.heap.size]? = some (.cells #[.slice x.A0 (halvesL nd M).pairs.length x.c0, .slice x.A1 (halvesL nd M).seps.length x.c1, .slice x.A2 (halvesL nd M).kids.length x.c2, .string (halvesS nd M), .slice y.A0 (halvesR nd M).pairs.length y.c0, .slice y.A1 (halvesR nd M).seps.length y.c1, .slice y.A2 (halvesR nd M).kids.length y.c2] 54 (0, 0)) := by rw [hW5]; exact heap_alloc_new _ _
      have hb5 : Below w4.heap.size w4 W5 := by rw [hW5]; exact (Below.refl _ _).alloc (Nat.le_refl _) _
      rw [← hW5]
      clear hW5
      have hB5 := hKt hB4 (hK0 (hb5.mono (Nat.le_trans hw0 (hKs hB4))))
      have hl5 : w4.heap.size < W5.heap.size := (Array.getElem?_eq_some_iff.1 hg5).1
      have HG5 := Lib.hid hg5
      have HL5 := Lib.hid ((OwN.rd HX4.out).below hb5.drew)
      have HR5 := Lib.hid ((OwN.rd HY4.out).below hb5.drew)
      have hB5 := hKt hB5 (hK0 ((Below.refl _ _).drew : Below n₀ W5 W5.drew))
      clear hg5 q0 q1 q2 q3 q4
      obtain ⟨⟨q0, q1, q2⟩, q3, q4, q5⟩ := box7 HG5.out
      gi_region_with (first
        | (refine ⟨trivial, ?_⟩; gi_at_call 75; refine (callsIn_wide.2 (weigh_c pg wd Bf x.A0 x.A1 x.A2 x.c0 x.c1 x.c2 (halvesL nd M) _ (HL5.out) (HFF.out _ hB5).1 (HFF.out _ hB5).2)).mono ?_; rintro e w6 ⟨rfl, hb6⟩; have hB6 := hKt hB5 (hK0 (hb6.mono (Nat.le_trans hw0 (hKs hB5)))); obtain ⟨⟨r0, r1, r2⟩, r3, r4, r5⟩ := box7 ((hb6.block _ hl5).trans HG5.out))
        | (refine ⟨trivial, ?_⟩; gi_at_call 75; refine (callsIn_wide.2 (weigh_c pg wd Bf y.A0 y.A1 y.A2 y.c0 y.c1 y.c2 (halvesR nd M) _ (HR5.out.below hb6) (HFF.out _ hB6).1 (HFF.out _ hB6).2)).mono ?_; rintro e w7 ⟨rfl, hb7⟩; have hB7 := hKt hB6 (hK0 (hb7.mono (Nat.le_trans hw0 (hKs hB6)))); have hBr := ((hb4.trans (hb5.drew.mono hb4.size)).trans (hb6.mono (Nat.le_trans hb4.size hb5.size))).trans (hb7.mono (Nat.le_trans (Nat.le_trans hb4.size hb5.size) hb6.size)); obtain ⟨fn, tmps, assign, body, hy, hR⟩ := HYK.out _ hBr hB7; dsimp only [encCut] at hy)
        | (refine hR.mono ?_; rintro e w8 ⟨b, rfl, hb8⟩))
      all_goals
        have HKE' := HKE.out
        have HB8 := hb8.out
        clear hb8 hb7 hb6 hB7 hB6 hBr HYK HY HX HR5 HL5 HG5 HX4 HY4 hy hR
        cases b with
        | true =>
          rw [if_pos rfl] at HB8
          have HB9 := Lib.hid HB8
          clear HB8
          gi_wp2
          go_roundw
          case rel => exact ⟨k + 1, by omega, by first | go_num | (simp; omega), HB9.out.1, HB9.out.2⟩
          case measure => simp [intOf]; omega
        | false =>
          rw [if_neg (by decide)] at HB8
          have HB9 := Lib.hid HB8
          clear HB8
          gi_wp2
          refine bodyPost_ret (results_none rfl _ _ _) rfl ?_
          exact ⟨⟨_, rfl⟩, .inr ⟨_, by rw [HPL.out]; exact upTo_prefix _ (by omega), HB9.out⟩⟩
    · obtain rfl : k = cutsN nd := by omega
      have hgt : ¬ ((firstN nd + cutsN nd : Nat) : Int) ≤ endsZ nd := by omega
      generalize firstN nd + cutsN nd = M at *
      gi_wp2
      go_end0
      exact ⟨⟨_, rfl⟩, .inl (by rw [HPL.out]; exact hJs)⟩

/-- **What Cuts hands back goes over the cuts.** -/
theorem cuts_stops (n : Nat) (hn : 1 ≤ n) (pg wd : Int) (A0 A1 A2 : Option Addr) (c0 c1 c2 : Nat) (nd : NodeD) (Bf Bn n₀ : Nat) (w : World) (hw0 : n₀ ≤ w.heap.size)
    (K : World → World → Prop) (hKt : ∀ {A B C : World}, K A B → K B C → K A C) (hK0 : ∀ {A B : World}, Below n₀ A B → K A B) (hKs : ∀ {A B : World}, K A B → A.heap.size ≤ B.heap.size)
    (hN : ∀ W, K w W → RdN W A0 c0 A1 c1 A2 c2 nd) (hF : ∀ W, K w W → W.cell? ⟨Bf, 0, none⟩ = some (.int .i64 pg) ∧ W.cell? ⟨Bf, 1, none⟩ = some (.int .i64 wd))
    (hnn : ∀ W, K w W → W.cell? ⟨Bn, 0, none⟩ = some (.slice A0 nd.pairs.length c0) ∧ W.cell? ⟨Bn, 1, none⟩ = some (.slice A1 nd.seps.length c1) ∧ W.cell? ⟨Bn, 2, none⟩ = some (.slice A2 nd.kids.length c2)) :
    SeqStopsK Fence.wide n Try.prog 73 #[.pointer (some ⟨Bf, 0, none⟩), .pointer (some ⟨Bn, 0, none⟩)] (encCut pg wd nd) K (fun xs => xs = places pg wd nd) (fun pre => pre <+: places pg wd nd) (places pg wd nd).length w := by
  by_cases hc : checkE pg wd nd = 0
  · exact cuts_some n hn pg wd A0 A1 A2 c0 c1 c2 nd Bf Bn n₀ w hc hw0 K hKt hK0 hKs hN hF hnn
  · have h0 := hK0 (Below.refl n₀ w)
    exact cuts_none n hn pg wd A0 A1 A2 c0 c1 c2 nd Bf Bn K w hc (fun W h => hN W (hK0 (h.mono hw0))) (hF w h0).1 (hF w h0).2 (hnn w h0).1 (hnn w h0).2.1 (hnn w h0).2.2

end Go.Proofs.Ytajkoeodabmgeaa
end

section
namespace Go.Proofs.Ytajkoeodabmgeaa
open Go.RowKit Go.Shelf
set_option maxHeartbeats 2000000
set_option maxRecDepth 100000

/-- One cut more: the best so far. -/
def bestStep (pg wd : Int) (nd : NodeD) (b : Nat × Int) (k : Nat) : Nat × Int :=
  if b.1 = 0 ∨ max (sizeE pg wd (halvesL nd k)) (sizeE pg wd (halvesR nd k)) < b.2 then (k, max (sizeE pg wd (halvesL nd k)) (sizeE pg wd (halvesR nd k))) else b
def bestOf (pg wd : Int) (nd : NodeD) (l : List Nat) : Nat × Int := l.foldl (bestStep pg wd nd) (0, 0)
theorem bestOf_snoc (pg wd : Int) (nd : NodeD) (l : List Nat) (k : Nat) : bestOf pg wd nd (l ++ [k]) = bestStep pg wd nd (bestOf pg wd nd l) k := by simp [bestOf]
def splitAt' (pg wd : Int) (nd : NodeD) : Nat := (bestOf pg wd nd (places pg wd nd)).1
def splitE (pg wd : Int) (nd : NodeD) : Int := if right pg wd then (if checkE pg wd nd = 0 then (if splitAt' pg wd nd = 0 then 82 else 0) else 80) else 2
def splitL (pg wd : Int) (nd : NodeD) : NodeD := if splitE pg wd nd = 0 then halvesL nd (splitAt' pg wd nd) else noN
def splitR (pg wd : Int) (nd : NodeD) : NodeD := if splitE pg wd nd = 0 then halvesR nd (splitAt' pg wd nd) else noN
def splitS (pg wd : Int) (nd : NodeD) : ByteArray := if splitE pg wd nd = 0 then halvesS nd (splitAt' pg wd nd) else ⟨#[]⟩

theorem bestOf_mem (pg wd : Int) (nd : NodeD) (l : List Nat) : (bestOf pg wd nd l).1 = 0 ∨ (bestOf pg wd nd l).1 ∈ l := by
  have h : ∀ (l : List Nat) (b : Nat × Int), (l.foldl (bestStep pg wd nd) b).1 = b.1 ∨ (l.foldl (bestStep pg wd nd) b).1 ∈ l := by
    intro l
    induction l with
    | nil => intro b; exact .inl rfl
    | cons k l ih =>
      intro b
      rw [List.foldl_cons]
      rcases ih (bestStep pg wd nd b k) with h | h
      · rw [h]
        unfold bestStep
        split
        · exact .inr (List.mem_cons_self ..)
        · exact .inl rfl
      · exact .inr (List.mem_cons_of_mem _ h)
  exact h l (0, 0)

theorem splitAt_ok {pg wd : Int} {nd : NodeD} (h : splitAt' pg wd nd ≠ 0) : cutOk nd (splitAt' pg wd nd) := by
  have h1 := (bestOf_mem pg wd nd (places pg wd nd)).resolve_left h
  unfold splitAt'
  generalize (bestOf pg wd nd (places pg wd nd)).1 = K at *
  unfold places at h1
  split at h1
  · rename_i hc
    obtain ⟨j, hj, rfl⟩ := List.mem_map.1 h1
    exact shaped_cut (checkE_zero hc).2 j (List.mem_range.1 hj)
  · cases h1

abbrev splitW (w : World) (a b c d e : Value) : World :=
  (((w.alloc (.cells #[a, b] 24)).alloc (.cells #[c, d, e] 29)).alloc (.cells zero7 54)).alloc (.cells zero7 54)

theorem split_row {w w1 : World} {a b c d e : Value} (h : Below (w.heap.size + 1 + 1 + 1 + 1) (splitW w a b c d e) w1) :
    w1.heap[w.heap.size + 1 + 1]? = some (.cells zero7 54 (0, 0)) := (h.block _ (by omega)).trans ((Below.heap_alloc _ _ _ (by simp)).trans (alloc3_at w _ _ _))
theorem split_lt {w w1 : World} {a b c d e : Value} (h : Below (w.heap.size + 1 + 1 + 1 + 1) (splitW w a b c d e) w1) : w.heap.size + 1 + 1 + 1 < w1.heap.size := by
  have := h.size
  simp only [World.size_alloc, splitW] at this
  omega
theorem split_boxes {w w1 : World} {a b c d e : Value} (h : Below (w.heap.size + 1 + 1 + 1 + 1) (splitW w a b c d e) w1) :
    (w1.cell? ⟨w.heap.size, 0, none⟩ = some a ∧ w1.cell? ⟨w.heap.size, 1, none⟩ = some b) ∧
    (w1.cell? ⟨w.heap.size + 1, 0, none⟩ = some c ∧ w1.cell? ⟨w.heap.size + 1, 1, none⟩ = some d ∧ w1.cell? ⟨w.heap.size + 1, 2, none⟩ = some e) := by
  have h0 : w1.heap[w.heap.size]? = some (.cells #[a, b] 24 (0, 0)) := (h.block _ (by omega)).trans ((Below.heap_alloc _ _ _ (by simp <;> omega)).trans (alloc3_0 w _ _ _))
  have h1 : w1.heap[w.heap.size + 1]? = some (.cells #[c, d, e] 29 (0, 0)) := (h.block _ (by omega)).trans ((Below.heap_alloc _ _ _ (by simp <;> omega)).trans (alloc3_1 w _ _ _))
  exact ⟨⟨cell_of_row _ _ 0 _ _ _ h0, cell_of_row _ _ 1 _ _ _ h0⟩, ⟨cell_of_row _ _ 0 _ _ _ h1, cell_of_row _ _ 1 _ _ _ h1, cell_of_row _ _ 2 _ _ _ h1⟩⟩
theorem split_zero {w w1 : World} {a b c d e : Value} (h : Below (w.heap.size + 1 + 1 + 1 + 1) (splitW w a b c d e) w1) :
    w1.heap[w.heap.size + 1 + 1 + 1]? = some (.cells zero7 54 (0, 0)) := (h.block _ (by omega)).trans (alloc4_at w _ _ _ _)
theorem split_base {w : World} {a b c d e : Value} : Below w.heap.size w (splitW w a b c d e) :=
  (((((Below.refl _ _).alloc (Nat.le_refl _) _).alloc (by simp) _).alloc (by simp <;> omega) _).alloc (by simp <;> omega) _)
theorem split_first {w w1 : World} {a b c d e : Value} (hb : Below (splitW w a b c d e).heap.size (splitW w a b c d e) w1) : Below (w.heap.size + 1 + 1 + 1 + 1) (splitW w a b c d e) w1 := hb.mono (by simp [splitW])
theorem split_next {w w1 w2 : World} {a b c d e : Value} (h : Below (w.heap.size + 1 + 1 + 1 + 1) (splitW w a b c d e) w1) (hb : Below w1.heap.size w1 w2) : Below (w.heap.size + 1 + 1 + 1 + 1) (splitW w a b c d e) w2 :=
  h.trans (hb.mono (split_lt h))
theorem split_below {w w1 : World} {a b c d e : Value} (h : Below (w.heap.size + 1 + 1 + 1 + 1) (splitW w a b c d e) w1) : Below w.heap.size w w1 := split_base.trans (h.mono (by omega))

theorem zero7_one : (zero7 : Array Value).all (·.oneCell') = true := by simp [Value.oneCell']

theorem split_err (w w1 : World) (pg wd : Int) (nd : NodeD) (E : Int) (hE : splitE pg wd nd = E) (hne : E ≠ 0) (hb : Below w.heap.size w w1) :
    ∃ x y mid, Ending.returned (.tuple #[.agg zero7, .int .i64 E]) = .returned (.tuple #[vH x (splitL pg wd nd) (splitS pg wd nd) y (splitR pg wd nd), .int .i64 (splitE pg wd nd)]) ∧
      VH.own x w1 w.heap.size mid (splitL pg wd nd) ∧ VH.own y w1 mid w1.heap.size (splitR pg wd nd) ∧ Below w.heap.size w w1 ∧ w.heap.size ≤ mid := by
  refine ⟨⟨none, 0, none, 0, none, 0⟩, ⟨none, 0, none, 0, none, 0⟩, w.heap.size, ?_, ?_, ?_, hb, Nat.le_refl _⟩
  · simp [splitL, splitR, splitS, hE, hne, noN, zero7]
  · simp only [splitL, hE, if_neg hne]; exact own_noN _ _ _
  · simp only [splitR, hE, if_neg hne]; exact own_noN _ _ _

theorem split_wrong (pg wd : Int) (A0 A1 A2 : Option Addr) (c0 c1 c2 : Nat) (nd : NodeD) (w : World) (hr : right pg wd = false) :
    Calls Try.prog 32 #[vF pg wd, vN A0 c0 A1 c1 A2 c2 nd] w fun e w' =>
      ∃ x y mid, e = .returned (.tuple #[vH x (splitL pg wd nd) (splitS pg wd nd) y (splitR pg wd nd), .int .i64 (splitE pg wd nd)]) ∧
        VH.own x w' w.heap.size mid (splitL pg wd nd) ∧ VH.own y w' mid w'.heap.size (splitR pg wd nd) ∧ Below w.heap.size w w' ∧ w.heap.size ≤ mid := by
  have hE : splitE pg wd nd = 2 := by simp [splitE, hr]
  have HE := Lib.hid hE
  have HR := Lib.hid hr
  clear hE hr
  go_enter Try.func32, Try.ntmps32
  go_wp2_with (first
    | (go_at_call 61; refine (frame_v pg wd _ _ HR.out).mono ?_; rintro e w1 ⟨rfl, hb⟩; have hBB := split_first hb; clear hb; obtain ⟨⟨q0, q1⟩, ⟨q2, q3, q4⟩⟩ := split_boxes hBB; have q7 := split_lt hBB; have HG := Lib.hid (split_row hBB); have HZ := Lib.hid (split_zero hBB))
    | (refine wpList_load_row rfl 54 (.tmp 6) rfl (w.heap.size + 1 + 1 + 1) rfl 54 zero7 (0, 0) _ HZ.out Try.underlying54 rfl info54 ?_)
    | (refine wpList_store_row rfl 54 (.tmp 4) (.tmp 16) rfl (w.heap.size + 1 + 1) zero7 rfl rfl 54 _ HG.out info54 rfl zero7_one ?_))
  refine bodyPost_ret (results_ct rfl _ _ (w.heap.size + 1 + 1) 54 zero7 (0, 0) _ rfl (setRow_block _ _ _ _ _ _ HG.out) Try.underlying54 rfl info54) rfl ?_
  exact split_err w _ pg wd nd 2 HE.out (by decide) (below_setRow (split_below hBB) (by omega) _)

theorem split_unshaped (pg wd : Int) (A0 A1 A2 : Option Addr) (c0 c1 c2 : Nat) (nd : NodeD) (w : World) (hN : RdN w A0 c0 A1 c1 A2 c2 nd) (hr : right pg wd = true) (hc : checkE pg wd nd ≠ 0) :
    Calls Try.prog 32 #[vF pg wd, vN A0 c0 A1 c1 A2 c2 nd] w fun e w' =>
      ∃ x y mid, e = .returned (.tuple #[vH x (splitL pg wd nd) (splitS pg wd nd) y (splitR pg wd nd), .int .i64 (splitE pg wd nd)]) ∧
        VH.own x w' w.heap.size mid (splitL pg wd nd) ∧ VH.own y w' mid w'.heap.size (splitR pg wd nd) ∧ Below w.heap.size w w' ∧ w.heap.size ≤ mid := by
  have hE : splitE pg wd nd = 80 := by simp [splitE, hr, hc]
  have HE := Lib.hid hE
  have HR := Lib.hid hr
  have HN := Lib.hid hN
  have hce : (checkE pg wd nd != 0) = true := by simpa using hc
  clear hE hr hN hc
  go_enter Try.func32, Try.ntmps32
  go_wp2_with (first
    | (go_at_call 61; refine (frame_v pg wd _ _ HR.out).mono ?_; rintro e w1 ⟨rfl, hb⟩; have hBB := split_first hb; clear hb; obtain ⟨⟨q0, q1⟩, ⟨q2, q3, q4⟩⟩ := split_boxes hBB; have q7 := split_lt hBB)
    | (go_at_call 74; refine (check_c pg wd A0 A1 A2 c0 c1 c2 nd _ (HN.out.below (split_below hBB))).mono ?_; rintro e w2 ⟨rfl, hb⟩; have hBB2 := split_next hBB hb; clear hb q0 q1 q2 q3 q4 q7 hBB; have q7 := split_lt hBB2; have HG := Lib.hid (split_row hBB2); have HZ := Lib.hid (split_zero hBB2))
    | (refine wpList_load_row rfl 54 (.tmp 6) rfl (w.heap.size + 1 + 1 + 1) rfl 54 zero7 (0, 0) _ HZ.out Try.underlying54 rfl info54 ?_)
    | (refine wpList_store_row rfl 54 (.tmp 4) (.tmp 21) rfl (w.heap.size + 1 + 1) zero7 rfl rfl 54 _ HG.out info54 rfl zero7_one ?_))
  refine bodyPost_ret (results_ct rfl _ _ (w.heap.size + 1 + 1) 54 zero7 (0, 0) _ rfl (setRow_block _ _ _ _ _ _ HG.out) Try.underlying54 rfl info54) rfl ?_
  exact split_err w _ pg wd nd 80 HE.out (by decide) (below_setRow (split_below hBB2) (by omega) _)

end Go.Proofs.Ytajkoeodabmgeaa
end

section
namespace Go.Proofs.Ytajkoeodabmgeaa
open Go.RowKit Go.Shelf
set_option maxHeartbeats 2000000
set_option maxRecDepth 100000
attribute [local go_sem] Oper.semAt_some

/-- The blocks below a bound, but for some, are as they were. -/
structure Kb (n₀ : Nat) (S : Nat → Prop) (w w' : World) : Prop where
  os : w'.os = w.os
  tape : w'.tape = w.tape
  output : w'.output = w.output
  size : w.heap.size ≤ w'.heap.size
  block : ∀ k, k < n₀ → ¬ S k → w'.heap[k]? = w.heap[k]?
theorem Kb.trans {n₀ : Nat} {S : Nat → Prop} {a b c : World} (h : Kb n₀ S a b) (k : Kb n₀ S b c) : Kb n₀ S a c :=
  ⟨k.os.trans h.os, k.tape.trans h.tape, k.output.trans h.output, Nat.le_trans h.size k.size, fun i hi hs => (k.block i hi hs).trans (h.block i hi hs)⟩
theorem Kb.of {n₀ : Nat} {S : Nat → Prop} {a b : World} (h : Below n₀ a b) : Kb n₀ S a b := ⟨h.os, h.tape, h.output, h.size, fun k hk _ => h.block k hk⟩
theorem Kb.setCell {n₀ : Nat} {S : Nat → Prop} (a : World) (g : Nat) (v : Value) (hg : S g) : Kb n₀ S a (a.setCell ⟨g, 0, none⟩ v) :=
  ⟨rfl, rfl, rfl, by simp, fun k _ hs => Below.heap_setCell a ⟨g, 0, none⟩ v k (fun e => hs (e ▸ hg))⟩
theorem Kb.row {n₀ : Nat} {S : Nat → Prop} {a b : World} (h : Kb n₀ S a b) {g : Nat} {o : Obj} (hg : a.heap[g]? = some o) (h1 : g < n₀) (h2 : ¬ S g) : b.heap[g]? = some o := (h.block g h1 h2).trans hg

theorem Oper.about_load {P : Program} {o : Oper} {w : World} {ρ : Operand → Value} (ty : TypeId) (x : Operand) (ho : o.op = .load ty x) : o.about P w ρ = none := by
  unfold Oper.about
  simp only [ho]

theorem wpListIn_load_row {F : Fence} {n : Nat} {P : Program} {ops : Array Oper} {rest : List Oper} {o : Oper} {a : Act} {w : World} {Q : Exit → Act → World → Prop} (hro : F.round = none) (hgd : o.guard = none) (ty : TypeId) (x : Operand) (ho : o.op = .load ty x)
    (g : Nat) (hx : a.eval x = .pointer (some ⟨g, 0, none⟩)) (t : TypeId) (cs : Array Value) (fr : Nat × Nat) (d : TypeDesc) (hg : w.heap[g]? = some (.cells cs t fr))
    (hu : P.underlying ty = some d) (hd : (match d with | .struct _ | .array _ _ => true | _ => false) = true) (hi : (P.info? ty).map (·.size) = some cs.size)
    (h : wpListIn F n P ops Q rest (a.put o.dst (.agg cs)) w) : wpListIn F n P ops Q (o :: rest) a w :=
  wpListIn_plain hgd fun K hK => by
    unfold Oper.wpIn
    refine ⟨fun f hf => (by rw [Oper.about_load ty x ho] at hf; cases hf), ?_⟩
    rw [hro, Oper.semAt_none]
    unfold execOp
    simp only [ho, hx, Instr.loadAt, Instr.sureAddr, Sem.run_bind, Sem.run_pure, Result.andThen_ok, run_loadVar_row w g t ty cs fr d hg hu hd hi]
    exact hK _ _ h

theorem putObj_row {w : World} {g D : Nat} {o o' : Obj} (h : w.heap[g]? = some o') (hne : g ≠ D) : (w.putObj D o).heap[g]? = some o' := (World.putObj_heap_other hne).trans h
theorem own_putObj {w : World} {lo hi D : Nat} {A0 A1 A2 : Option Addr} {c0 c1 c2 : Nat} {nd : NodeD} (h : OwN w lo hi A0 c0 A1 c1 A2 c2 nd) (o : Obj) (hD : D < lo ∨ hi ≤ D) : OwN (w.putObj D o) lo hi A0 c0 A1 c1 A2 c2 nd :=
  h.kept (S := fun k => k = D) ⟨rfl, rfl, rfl, by simp [World.putObj], fun k _ hs => World.putObj_heap_other hs⟩ (fun k h1 h2 h3 => by omega)
theorem below_putObj {B : Nat} {a w : World} (h : Below B a w) {D : Nat} (hD : B ≤ D) (o : Obj) : Below B a (w.putObj D o) :=
  h.trans ⟨rfl, rfl, rfl, by simp [World.putObj], fun k hk => World.putObj_heap_other (by omega)⟩

abbrev splitTmps (pg wd : Int) (A0 A1 A2 : Option Addr) (c0 c1 c2 : Nat) (nd : NodeD) (h m : Nat) (s9 s10 s25 s26 : Value) : Array Value :=
  #[vF pg wd, vN A0 c0 A1 c1 A2 c2 nd, .pointer (some ⟨h, 0, none⟩), .pointer (some ⟨h + 1, 0, none⟩), .pointer (some ⟨h + 1 + 1, 0, none⟩), .int .i64 0, .pointer (some ⟨h + 1 + 1 + 1, 0, none⟩),
    .pointer (some ⟨m, 0, none⟩), .pointer (some ⟨m + 1, 0, none⟩), s9, s10, undef, .agg zero7, vF pg wd, .bool true, .bool false, undef, vF pg wd, vN A0 c0 A1 c1 A2 c2 nd, .int .i64 0, .bool false, undef, vF pg wd, vN A0 c0 A1 c1 A2 c2 nd,
    .func (.func 73) #[] #[.pointer (some ⟨m + 1 + 1, 0, none⟩), .pointer (some ⟨m + 1 + 1 + 1, 0, none⟩)], s25, s26, undef, undef, undef, undef, undef, undef, undef, undef, undef, undef, undef, undef, undef, undef, undef, undef, undef, undef, undef, undef]

theorem split_main (pg wd : Int) (A0 A1 A2 : Option Addr) (c0 c1 c2 : Nat) (nd : NodeD) (w : World) (hN : RdN w A0 c0 A1 c1 A2 c2 nd) (hr : right pg wd = true) (hc : checkE pg wd nd = 0) :
    Calls Try.prog 32 #[vF pg wd, vN A0 c0 A1 c1 A2 c2 nd] w fun e w' =>
      ∃ x y mid, e = .returned (.tuple #[vH x (splitL pg wd nd) (splitS pg wd nd) y (splitR pg wd nd), .int .i64 (splitE pg wd nd)]) ∧
        VH.own x w' w.heap.size mid (splitL pg wd nd) ∧ VH.own y w' mid w'.heap.size (splitR pg wd nd) ∧ Below w.heap.size w w' ∧ w.heap.size ≤ mid := by
  have HR := Lib.hid hr
  have HN := Lib.hid hN
  have HC := Lib.hid hc
  clear hr hN hc
  refine (callsIn_wide (n := 9)).1 ?_
  refine callsIn_of_wp_marks Try.func32 rfl trivial ?_ rfl
  simp only [Try.ntmps32, List.size_toArray, List.length_cons, List.length_nil, Nat.reduceAdd, Nat.reduceSub, Array.replicate_succ, Array.replicate_zero, List.push_toArray, List.append_toArray, List.nil_append, List.cons_append]
  gi_wp2_with (first
    | (refine ⟨trivial, ?_⟩; gi_at_call 61; refine (callsIn_wide.2 (frame_v pg wd _ _ HR.out)).mono ?_; rintro e w1 ⟨rfl, hb⟩; have hBB := split_first hb; clear hb; obtain ⟨⟨q0, q1⟩, ⟨q2, q3, q4⟩⟩ := split_boxes hBB; have q7 := split_lt hBB)
    | (refine ⟨trivial, ?_⟩; gi_at_call 74; refine (callsIn_wide.2 (check_v pg wd A0 A1 A2 c0 c1 c2 nd _ (HN.out.below (split_below hBB)) _ HC.out)).mono ?_; rintro e w2 ⟨rfl, hb⟩; have hBB2 := split_next hBB hb; clear hb q0 q1 q2 q3 q4 q7 hBB; obtain ⟨⟨q0, q1⟩, ⟨q2, q3, q4⟩⟩ := split_boxes hBB2; have q7 := split_lt hBB2; have q8 : w.heap.size < w2.heap.size := (by omega); have q9 : w.heap.size + 1 < w2.heap.size := (by omega); have q10 : w.heap.size < w2.heap.size + 1 := (by omega); have q11 : w.heap.size + 1 < w2.heap.size + 1 := (by omega))
    | (refine ⟨trivial, ?_⟩; gi_at_call 31; refine (callsIn_wide.2 (cuts_c pg wd A0 A1 A2 c0 c1 c2 nd _)).mono ?_; rintro e w3 ⟨rfl, hw3⟩))
  clear q0 q1 q2 q3 q4 q10 q11
  rw [← hw3]
  have b7 : Boxed w3 w2.heap.size 3 (.int .i64 0) := by
    rw [hw3]; exact (((Boxed.new w2 3 (.int .i64 0)).alloc _).alloc _).alloc _
  have b8 : Boxed w3 (w2.heap.size + 1) 3 (.int .i64 0) := by
    have := ((Boxed.new (w2.alloc (.cells #[.int .i64 0] 3)) 3 (.int .i64 0)).alloc (.cells #[.int .i64 pg, .int .i64 wd] 24)).alloc (.cells #[.slice A0 nd.pairs.length c0, .slice A1 nd.seps.length c1, .slice A2 nd.kids.length c2] 29)
    rw [hw3]; simpa using this
  have hf : w3.heap[w2.heap.size + 1 + 1]? = some (.cells #[.int .i64 pg, .int .i64 wd] 24 (0, 0)) := by
    rw [hw3]; exact (Below.heap_alloc _ _ _ (by simp)).trans (alloc3_at w2 _ _ _)
  have hnn : w3.heap[w2.heap.size + 1 + 1 + 1]? = some (.cells #[.slice A0 nd.pairs.length c0, .slice A1 nd.seps.length c1, .slice A2 nd.kids.length c2] 29 (0, 0)) := by
    rw [hw3]; exact alloc4_at w2 _ _ _ _
  have hB3 : Below w2.heap.size w2 w3 := by
    rw [hw3]; exact ((((Below.refl _ _).alloc (Nat.le_refl _) _).alloc (by simp) _).alloc (by simp <;> omega) _).alloc (by simp <;> omega) _
  have hsz3 : w3.heap.size = w2.heap.size + 4 := by rw [hw3]; simp
  clear hw3
  have HRD := Lib.hid (HN.out.below (split_below hBB2))
  have hKN : ∀ W, Kb (w2.heap.size + 4) (fun k => k = w2.heap.size ∨ k = w2.heap.size + 1) w3 W → RdN W A0 c0 A1 c1 A2 c2 nd := fun W h =>
    HRD.out.below (hB3.trans ⟨h.os, h.tape, h.output, h.size, fun k hk => h.block k (by omega) (by omega)⟩)
  have hKF : ∀ W, Kb (w2.heap.size + 4) (fun k => k = w2.heap.size ∨ k = w2.heap.size + 1) w3 W → W.cell? ⟨w2.heap.size + 1 + 1, 0, none⟩ = some (.int .i64 pg) ∧ W.cell? ⟨w2.heap.size + 1 + 1, 1, none⟩ = some (.int .i64 wd) := fun W h => by
    have := h.row hf (by omega) (by omega)
    exact ⟨cell_of_row _ _ 0 _ _ _ this, cell_of_row _ _ 1 _ _ _ this⟩
  have hKC : ∀ W, Kb (w2.heap.size + 4) (fun k => k = w2.heap.size ∨ k = w2.heap.size + 1) w3 W → W.cell? ⟨w2.heap.size + 1 + 1 + 1, 0, none⟩ = some (.slice A0 nd.pairs.length c0) ∧ W.cell? ⟨w2.heap.size + 1 + 1 + 1, 1, none⟩ = some (.slice A1 nd.seps.length c1) ∧ W.cell? ⟨w2.heap.size + 1 + 1 + 1, 2, none⟩ = some (.slice A2 nd.kids.length c2) := fun W h => by
    have := h.row hnn (by omega) (by omega)
    exact ⟨cell_of_row _ _ 0 _ _ _ this, cell_of_row _ _ 1 _ _ _ this, cell_of_row _ _ 2 _ _ _ this⟩
  have hst := cuts_stops 8 (by omega) pg wd A0 A1 A2 c0 c1 c2 nd (w2.heap.size + 1 + 1) (w2.heap.size + 1 + 1 + 1) (w2.heap.size + 4) w3 (by omega) (Kb (w2.heap.size + 4) (fun k => k = w2.heap.size ∨ k = w2.heap.size + 1)) Kb.trans Kb.of Kb.size hKN hKF hKC
  clear hKN hKF hKC hf hnn
  refine wpIn_rangeFunc_ownH rfl (by omega) (gf := 73) (lb := #[.pointer (some ⟨w2.heap.size + 1 + 1, 0, none⟩), .pointer (some ⟨w2.heap.size + 1 + 1 + 1, 0, none⟩)]) rfl trivial (enters_of Try.func73 (by kernel_rfl) rfl)
    hst Kb.trans (fun W l o o' hl h1 h2 h3 => Kb.of (belowK_b (w := w3) (by omega) W l o o' hl h1 h2 h3)) (Below.refl _ _) (fun _ => rfl)
    (fun pre W => (Boxed W w2.heap.size 3 (.int .i64 (bestOf pg wd nd pre).1) ∧ Boxed W (w2.heap.size + 1) 3 (.int .i64 (bestOf pg wd nd pre).2)) ∧ Below w2.heap.size w3 W)
    (fun _ _ _ => False)
    (OwnFrom.and (OwnFrom.and (Own.from (boxed_own _ _ _) _) (Own.from (boxed_own _ _ _) _)) (ownFrom_below (by omega) (by omega)))
    (fun _ _ _ _ _ hs _ _ => hs)
    ⟨⟨b7, b8⟩, Below.refl _ _⟩
    (fun x a' W => ∃ Bx, w2.heap.size + 1 < Bx ∧ W.heap[Bx]? = some (.cells #[.int .i64 (sizeE pg wd (halvesL nd x)), .int .i64 (sizeE pg wd (halvesR nd x))] 49 (0, 0)) ∧
      a' = { tmps := splitTmps pg wd A0 A1 A2 c0 c1 c2 nd w.heap.size w2.heap.size (.int .i64 x) (.pointer (some ⟨Bx, 0, none⟩)) (.int .i64 x) (.agg #[.int .i64 (sizeE pg wd (halvesL nd x)), .int .i64 (sizeE pg wd (halvesR nd x))]), defers := [] })
    (fun x a' _ X Y row hs hg hr => by
      obtain ⟨Bx, h1, h2, h3⟩ := hs
      refine ⟨Bx, h1, ?_, h3⟩
      refine (hg.block Bx (Array.getElem?_eq_some_iff.1 h2).1 (fun e => ?_)).trans h2
      obtain ⟨_, o, ho, hc⟩ := hr Bx e.symm
      rw [h2] at ho
      cases ho
      cases hc)
    ?assign ?body ?done ?stop
  case assign =>
    rintro l pre x W K ⟨⟨bS1, bB1⟩, hB1⟩ hK
    have hi49 : (Try.prog.info? 49).map (·.size) = some 2 := by kernel_rfl
    dsimp only [encCut]
    gi_wp2
    have hl := bB1.lt
    have hz := hB1.size
    exact hK _ _ ((KeepsOthers.alloc _ _).from _) (Kb.of ((Below.refl _ W).alloc (by omega) _)) ⟨⟨bS1.alloc _, bB1.alloc _⟩, hB1.alloc (by omega) _⟩ ⟨W.heap.size, by omega, heap_alloc_new _ _, rfl⟩
  case body =>
    rintro l pre x a' W hl ⟨r, hr⟩ ⟨⟨bS1, bB1⟩, hB1⟩ ⟨Bx, hBx, bX, rfl⟩ hlt
    have c7 := bS1.cell
    have f7 := bS1.frozen
    have c8 := bB1.cell
    have f8 := bB1.frozen
    have x0 := cell_of_row _ _ 0 _ _ _ bX
    have x1 := cell_of_row _ _ 1 _ _ _ bX
    simp only [List.getElem?_toArray, List.getElem?_cons_zero, List.getElem?_cons_succ] at x0 x1
    have hne : w2.heap.size ≠ w2.heap.size + 1 := by omega
    have hy : ∀ v, v = max (sizeE pg wd (halvesL nd x)) (sizeE pg wd (halvesR nd x)) → ((bestOf pg wd nd pre).1 = 0 ∨ v < (bestOf pg wd nd pre).2) → bestOf pg wd nd (pre ++ [x]) = (x, v) := by
      rintro v rfl h; rw [bestOf_snoc, bestStep, if_pos h]
    have hn : ∀ v, v = max (sizeE pg wd (halvesL nd x)) (sizeE pg wd (halvesR nd x)) → ¬ ((bestOf pg wd nd pre).1 = 0 ∨ v < (bestOf pg wd nd pre).2) → bestOf pg wd nd (pre ++ [x]) = bestOf pg wd nd pre := by
      rintro v rfl h; rw [bestOf_snoc, bestStep, if_neg h]
    generalize hb : bestOf pg wd nd pre = b at *
    generalize sizeE pg wd (halvesL nd x) = L at *
    generalize sizeE pg wd (halvesR nd x) = R at *
    obtain ⟨b1, b2⟩ := b
    dsimp only at *
    clear hb
    rcases Int.lt_or_le L R with hLR | hLR
    · have hm : R = max L R := by omega
      by_cases h1 : b1 = 0
      · have hq := Lib.hid (hy R hm (.inl h1))
        have hb1 : ((b1 : Int) == 0) = true := by simp [h1]
        clear hy hn h1 hm
        gi_wp2
        exact ⟨((KeepsOthers.setCell _ _ _).trans (KeepsOthers.setCell _ _ _)).from _, (Kb.setCell W w2.heap.size _ (.inl rfl)).trans (Kb.setCell _ (w2.heap.size + 1) _ (.inr rfl)), ⟨by rw [hq.out]; exact (bS1.set _).other (by omega) _, by rw [hq.out]; exact (bB1.other (by omega) _).set _⟩,
            (hB1.setCell (p := ⟨w2.heap.size, 0, none⟩) (Nat.le_refl _) _).setCell (p := ⟨w2.heap.size + 1, 0, none⟩) (by simp) _⟩
      · have hb1 : ((b1 : Int) == 0) = false := by rw [beq_eq_false_iff_ne]; omega
        by_cases h2 : R < b2
        · have hq := Lib.hid (hy R hm (.inr h2))
          clear hy hn h1 hm
          gi_wp2
          exact ⟨((KeepsOthers.setCell _ _ _).trans (KeepsOthers.setCell _ _ _)).from _, (Kb.setCell W w2.heap.size _ (.inl rfl)).trans (Kb.setCell _ (w2.heap.size + 1) _ (.inr rfl)), ⟨by rw [hq.out]; exact (bS1.set _).other (by omega) _, by rw [hq.out]; exact (bB1.other (by omega) _).set _⟩,
            (hB1.setCell (p := ⟨w2.heap.size, 0, none⟩) (Nat.le_refl _) _).setCell (p := ⟨w2.heap.size + 1, 0, none⟩) (by simp) _⟩
        · have hq := Lib.hid (hn R hm (by omega))
          have h2' : b2 ≤ R := by omega
          clear hy hn h1 hm h2
          gi_wp2
          exact ⟨(KeepsOthers.refl _).from _, Kb.of (Below.refl _ _), ⟨by rw [hq.out]; exact bS1, by rw [hq.out]; exact bB1⟩, hB1⟩
    · have hm : L = max L R := by omega
      by_cases h1 : b1 = 0
      · have hq := Lib.hid (hy L hm (.inl h1))
        have hb1 : ((b1 : Int) == 0) = true := by simp [h1]
        clear hy hn h1 hm
        gi_wp2
        exact ⟨((KeepsOthers.setCell _ _ _).trans (KeepsOthers.setCell _ _ _)).from _, (Kb.setCell W w2.heap.size _ (.inl rfl)).trans (Kb.setCell _ (w2.heap.size + 1) _ (.inr rfl)), ⟨by rw [hq.out]; exact (bS1.set _).other (by omega) _, by rw [hq.out]; exact (bB1.other (by omega) _).set _⟩,
            (hB1.setCell (p := ⟨w2.heap.size, 0, none⟩) (Nat.le_refl _) _).setCell (p := ⟨w2.heap.size + 1, 0, none⟩) (by simp) _⟩
      · have hb1 : ((b1 : Int) == 0) = false := by rw [beq_eq_false_iff_ne]; omega
        by_cases h2 : L < b2
        · have hq := Lib.hid (hy L hm (.inr h2))
          clear hy hn h1 hm
          gi_wp2
          exact ⟨((KeepsOthers.setCell _ _ _).trans (KeepsOthers.setCell _ _ _)).from _, (Kb.setCell W w2.heap.size _ (.inl rfl)).trans (Kb.setCell _ (w2.heap.size + 1) _ (.inr rfl)), ⟨by rw [hq.out]; exact (bS1.set _).other (by omega) _, by rw [hq.out]; exact (bB1.other (by omega) _).set _⟩,
            (hB1.setCell (p := ⟨w2.heap.size, 0, none⟩) (Nat.le_refl _) _).setCell (p := ⟨w2.heap.size + 1, 0, none⟩) (by simp) _⟩
        · have hq := Lib.hid (hn L hm (by omega))
          have h2' : b2 ≤ L := by omega
          clear hy hn h1 hm h2
          gi_wp2
          exact ⟨(KeepsOthers.refl _).from _, Kb.of (Below.refl _ _), ⟨by rw [hq.out]; exact bS1, by rw [hq.out]; exact bB1⟩, hB1⟩
  case done =>
    rintro D xs W hD rfl ⟨⟨bS1, bB1⟩, hB1⟩ hK
    have c7 := bS1.cell
    have hBB3 := hBB2.trans ((hB3.trans hB1).mono (by omega))
    obtain ⟨⟨q0, q1⟩, ⟨q2, q3, q4⟩⟩ := split_boxes hBB3
    have HG := Lib.hid (split_row hBB3)
    have HZ := Lib.hid (split_zero hBB3)
    have hDW : D < W.heap.size := (Array.getElem?_eq_some_iff.1 hK).1
    have hsp : splitAt' pg wd nd = (bestOf pg wd nd (places pg wd nd)).1 := rfl
    clear hst bS1 bB1 b7 b8
    rw [← hsp] at c7
    clear hsp
    by_cases h0 : splitAt' pg wd nd = 0
    · have hb0 : ((splitAt' pg wd nd : Int) == 0) = true := by simp [h0]
      have hE : splitE pg wd nd = 82 := by simp [splitE, HR.out, HC.out, h0]
      have HE := Lib.hid hE
      have HK := Lib.hid hK
      clear h0 hE hK
      gi_wp2_with (first
        | (refine wpListIn_load_row rfl rfl 54 (.tmp 6) rfl (w.heap.size + 1 + 1 + 1) rfl 54 zero7 (0, 0) _ HZ.out Try.underlying54 rfl info54 ?_)
        | (refine wpListIn_store_row rfl rfl 54 (.tmp 4) (.tmp 43) rfl (w.heap.size + 1 + 1) zero7 rfl rfl 54 _ HG.out info54 rfl zero7_one ?_))
      refine ⟨by simp, .inl ⟨_, _, rfl, run_takeDeferred ((setRow_other _ _ _ _ (by omega)).trans HK.out), ?_⟩⟩
      refine ⟨_, results_ct rfl _ _ (w.heap.size + 1 + 1) 54 zero7 (0, 0) _ rfl (putObj_row (setRow_block _ _ _ _ _ _ HG.out) (by omega)) Try.underlying54 rfl info54, ?_⟩
      exact split_err w _ pg wd nd 82 HE.out (by decide) (below_putObj (below_setRow (split_below hBB3) (by omega) _) (by omega) _)
    · have hb0 : ((splitAt' pg wd nd : Int) == 0) = false := by rw [beq_eq_false_iff_ne]; omega
      have hE : splitE pg wd nd = 0 := by simp [splitE, HR.out, HC.out, h0]
      have hok := splitAt_ok h0
      have HE := Lib.hid hE
      have HK := Lib.hid hK
      have HOK := Lib.hid hok
      have HRW := Lib.hid (HN.out.below (split_below hBB3))
      clear h0 hE hK hok
      gi_wp2_with (first
        | (refine ⟨trivial, ?_⟩; gi_at_call 77; refine (callsIn_wide.2 (halves_c A0 A1 A2 c0 c1 c2 nd _ _ HRW.out HOK.out)).mono ?_; rintro e w5 ⟨x, y, mid, rfl, hx, hy, hb5, hmid⟩; have hBB5 := split_next hBB3 hb5; have HG5 := Lib.hid (split_row hBB5); have HX := Lib.hid hx; have HY := Lib.hid hy; clear hx hy)
        | (refine wpListIn_store_row rfl rfl 54 (.tmp 4) (.tmp 46) rfl (w.heap.size + 1 + 1) #[.slice x.A0 (halvesL nd (splitAt' pg wd nd)).pairs.length x.c0, .slice x.A1 (halvesL nd (splitAt' pg wd nd)).seps.length x.c1, .slice x.A2 (halvesL nd (splitAt' pg wd nd)).kids.length x.c2, .string (halvesS nd (splitAt' pg wd nd)), .slice y.A0 (halvesR nd (splitAt' pg wd nd)).pairs.length y.c0, .slice y.A1 (halvesR nd (splitAt' pg wd nd)).seps.length y.c1, .slice y.A2 (halvesR nd (splitAt' pg wd nd)).kids.length y.c2] rfl rfl 54 _ HG5.out info54 rfl (own7 x y _ _ _) ?_))
      have hDK : w5.heap[D]? = some (.deferred (some [])) := (hb5.block D hDW).trans HK.out
      have hbs := hb5.size
      refine ⟨by simp, .inl ⟨_, _, rfl, run_takeDeferred ((setRow_other _ _ _ _ (by omega)).trans hDK), ?_⟩⟩
      refine ⟨_, results_ct rfl _ _ (w.heap.size + 1 + 1) 54 #[.slice x.A0 (halvesL nd (splitAt' pg wd nd)).pairs.length x.c0, .slice x.A1 (halvesL nd (splitAt' pg wd nd)).seps.length x.c1, .slice x.A2 (halvesL nd (splitAt' pg wd nd)).kids.length x.c2, .string (halvesS nd (splitAt' pg wd nd)), .slice y.A0 (halvesR nd (splitAt' pg wd nd)).pairs.length y.c0, .slice y.A1 (halvesR nd (splitAt' pg wd nd)).seps.length y.c1, .slice y.A2 (halvesR nd (splitAt' pg wd nd)).kids.length y.c2] (0, 0) _ rfl (putObj_row (setRow_block _ _ _ _ _ _ HG5.out) (by omega)) Try.underlying54 rfl info54, ?_⟩
      have e1 : splitL pg wd nd = halvesL nd (splitAt' pg wd nd) := by simp [splitL, HE.out]
      have e2 : splitR pg wd nd = halvesR nd (splitAt' pg wd nd) := by simp [splitR, HE.out]
      have e3 : splitS pg wd nd = halvesS nd (splitAt' pg wd nd) := by simp [splitS, HE.out]
      rw [e1, e2, e3, HE.out]
      refine ⟨x, y, mid, rfl, ?_, ?_, below_putObj (below_setRow (split_below hBB5) (by omega) _) (by omega) _, by omega⟩
      · exact (own_putObj (OwN.setRow HX.out _ _ (by omega)) _ (by left; omega)).wide (by omega) (Nat.le_refl _)
      · exact (own_putObj (OwN.setRow HY.out _ _ (by omega)) _ (by left; omega)).wide (Nat.le_refl _) (by simp [World.setRow, World.putObj])
  case stop =>
    rintro D c pre W _ _ h _
    exact h.elim

theorem split_c (pg wd : Int) (A0 A1 A2 : Option Addr) (c0 c1 c2 : Nat) (nd : NodeD) (w : World) (hN : RdN w A0 c0 A1 c1 A2 c2 nd) :
    Calls Try.prog 32 #[vF pg wd, vN A0 c0 A1 c1 A2 c2 nd] w fun e w' =>
      ∃ x y mid, e = .returned (.tuple #[vH x (splitL pg wd nd) (splitS pg wd nd) y (splitR pg wd nd), .int .i64 (splitE pg wd nd)]) ∧
        VH.own x w' w.heap.size mid (splitL pg wd nd) ∧ VH.own y w' mid w'.heap.size (splitR pg wd nd) ∧ Below w.heap.size w w' ∧ w.heap.size ≤ mid := by
  cases hr : right pg wd with
  | false => exact split_wrong pg wd A0 A1 A2 c0 c1 c2 nd w hr
  | true =>
    by_cases hc : checkE pg wd nd = 0
    · exact split_main pg wd A0 A1 A2 c0 c1 c2 nd w hN hr hc
    · exact split_unshaped pg wd A0 A1 A2 c0 c1 c2 nd w hN hr hc

end Go.Proofs.Ytajkoeodabmgeaa
end

section
namespace Go.Proofs.Ytajkoeodabmgeaa
open Go.RowKit
set_option maxHeartbeats 2000000
set_option maxRecDepth 100000

def smallN : NodeD := ⟨[⟨⟨#[98]⟩, ⟨#[49]⟩⟩, ⟨⟨#[100]⟩, ⟨#[50]⟩⟩, ⟨⟨#[102]⟩, ⟨#[51]⟩⟩], [], []⟩
def pairC : PairD := ⟨⟨#[99]⟩, ⟨#[57]⟩⟩

theorem small_check : checkE 1024 32 smallN = 0 := by kernel_rfl
theorem small_putE : putE 1024 32 smallN pairC = 0 := by kernel_rfl
theorem small_putB : putB 1024 32 smallN pairC = false := by kernel_rfl
theorem small_putR : putR 1024 32 smallN pairC = ⟨[⟨⟨#[98]⟩, ⟨#[49]⟩⟩, ⟨⟨#[99]⟩, ⟨#[57]⟩⟩, ⟨⟨#[100]⟩, ⟨#[50]⟩⟩, ⟨⟨#[102]⟩, ⟨#[51]⟩⟩], [], []⟩ := by kernel_rfl
theorem small_splitE : splitE 1024 32 smallN = 0 := by kernel_rfl
theorem small_splitL : splitL 1024 32 smallN = ⟨[⟨⟨#[98]⟩, ⟨#[49]⟩⟩], [], []⟩ := by kernel_rfl
theorem small_splitR : splitR 1024 32 smallN = ⟨[⟨⟨#[100]⟩, ⟨#[50]⟩⟩, ⟨⟨#[102]⟩, ⟨#[51]⟩⟩], [], []⟩ := by kernel_rfl
theorem small_splitS : splitS 1024 32 smallN = ⟨#[100]⟩ := by kernel_rfl
theorem apr_S : sepS ⟨#[97, 112, 112, 108, 101]⟩ ⟨#[97, 112, 114, 105, 99, 111, 116]⟩ = ⟨#[97, 112, 114]⟩ := by kernel_rfl
theorem apr_E : sepE ⟨#[97, 112, 112, 108, 101]⟩ ⟨#[97, 112, 114, 105, 99, 111, 116]⟩ = 0 := by kernel_rfl

end Go.Proofs.Ytajkoeodabmgeaa
end

section
namespace Go.Proofs.Ytajkoeodabmgeaa
open Go.RowKit
set_option maxHeartbeats 2000000
set_option maxRecDepth 100000

theorem lawFrame_c (w : World) : Calls Try.prog 39 #[] w fun e w' => e = .returned (vF 1024 32) ∧ Below w.heap.size w w' := by
  go_enter Try.func39, Try.ntmps39
  go_wp2
  refine bodyPost_ret (results_cell_row rfl _ _ w.heap.size 24 #[.int .i64 1024, .int .i64 32] (0, 0) _ rfl (heap_alloc_new _ _) Try.underlying24 rfl (by kernel_rfl)) rfl ?_
  exact ⟨rfl, (Below.refl _ _).alloc (Nat.le_refl _) _⟩

theorem small_c (w : World) : Calls Try.prog 59 #[] w fun e w' => (∃ g, e = .returned (vN (some ⟨g, 0, none⟩) 3 none 0 none 0 smallN) ∧ RdN w' (some ⟨g, 0, none⟩) 3 none 0 none 0 smallN) ∧ Below w.heap.size w w' := by
  go_enter Try.func59, Try.ntmps59
  go_wp2
  refine bodyPost_ret (results_cell_row rfl _ _ w.heap.size 29 #[.slice (some ⟨w.heap.size + 1, 0, none⟩) 3 3, .slice none 0 0, .slice none 0 0] (0, 0) _ rfl ((Below.heap_alloc _ _ _ (by simp)).trans (heap_alloc_new _ _)) Try.underlying29 rfl info29') rfl ?_
  refine ⟨⟨w.heap.size + 1, rfl, ?_⟩, ((Below.refl _ _).alloc (Nat.le_refl _) _).alloc (by simp) _⟩
  exact {
    pairs := ⟨by simp [pcells_len], fun _ => ⟨w.heap.size + 1, 0, rfl, fun j u hu => by
      rw [Nat.zero_add, cell_of_row _ _ j _ _ _ (alloc2_at w _ _), ← hu]
      simp [pcells, smallN, PairD.cells]⟩⟩
    seps := Rd.none_
    kids := Rd.none_
    hp := by decide
    hs := by decide
    hk := by decide
    hcp := by decide
    hcs := by decide
    hck := by decide
    pk := by
      intro p hp
      simp only [smallN, List.mem_cons, List.not_mem_nil, or_false] at hp
      rcases hp with rfl | rfl | rfl <;> exact ⟨by decide, by decide⟩
    sk := fun s hs => by simp [smallN] at hs
    kk := fun s hs => by simp [smallN] at hs }

theorem awake_c (w : World) : Calls Try.prog 20 #[] w fun e w' => e = .returned (.bool true) ∧ Below w.heap.size w w' := by
  go_enter Try.func20, Try.ntmps20
  go_wp2_with (first
    | (go_at_call 39; refine (lawFrame_c _).mono ?_; rintro e w1 ⟨rfl, hb1⟩)
    | (go_at_call 59; refine (small_c _).mono ?_; rintro e w2 ⟨⟨g, rfl, hrd⟩, hb2⟩; have HR := Lib.hid hrd; clear hrd)
    | (go_at_call 22; refine (put_c 1024 32 _ _ _ _ _ _ smallN pairC _ HR.out (by decide) (by decide)).mono ?_; rw [small_putE, small_putB, small_putR]; rintro e w3 ⟨B0, d0, rfl, hown, hb3⟩; have hB3 : Below w.heap.size w w3 := (hb1.trans (hb2.mono hb1.size)).trans (hb3.mono (Nat.le_trans hb1.size hb2.size)); clear HR hb1 hb2 hb3; obtain ⟨ab, ao, rfl, p0, p1⟩ := pairs_at hown.rd.pairs (k := 1) (by decide); obtain ⟨ab', ao', he, s0, s1⟩ := pairs_at hown.rd.pairs (k := 2) (by decide); cases he; have P0 := Lib.hid (show w3.cell? ⟨ab, ao + 2, none⟩ = some (.string ⟨#[99]⟩) from p0); have P1 := Lib.hid (show w3.cell? ⟨ab, ao + 2 + 1, none⟩ = some (.string ⟨#[57]⟩) from p1); have S0 := Lib.hid (show w3.cell? ⟨ab, ao + 4, none⟩ = some (.string ⟨#[100]⟩) from s0); clear hown p0 p1 s0 s1))
  go_wp2_with (first
    | (go_at_call 32; refine (split_c 1024 32 _ _ _ _ _ _ smallN _ HR.out).mono ?_; rw [small_splitE, small_splitL, small_splitR, small_splitS]; rintro e w6 ⟨x, y, mid, rfl, hx, hy, hb6, hm⟩; clear hx hy hm; have hB6 := (hb1.trans (hb2.mono hb1.size)).trans (hb6.mono (Nat.le_trans hb1.size hb2.size)); clear hb1 hb2 hb6 HR)
    | (go_at_call 27; refine (between_c _ _ _ (by decide) (by decide)).mono ?_; rw [apr_S, apr_E]; rintro e w8 ⟨rfl, hb8⟩; have hg8 := (hb8.block w6.heap.size (by simp)).trans (heap_alloc_new _ _); have hB68 := below_a hb8; have hB36 := below_a hB6; have hg3 := (hB68.block w3.heap.size (by have := hB6.size; simp at this; omega)).trans ((hB6.block w3.heap.size (by simp)).trans (heap_alloc_new _ _)); have hB38 := hB36.trans (hB68.mono hB36.size); have hab := World.block_lt_of_cell? _ _ P0.out; have p0 := (hB38.cell (p := ⟨ab, ao + 2, none⟩) hab).trans P0.out; have p1 := (hB38.cell (p := ⟨ab, ao + 2 + 1, none⟩) hab).trans P1.out; have s0 := (hB38.cell (p := ⟨ab, ao + 4, none⟩) hab).trans S0.out; have n0 := cell_of_row _ _ 0 _ _ _ hg3; obtain ⟨⟨h0, _, _⟩, h4, _, _⟩ := box7 hg8; have h3 := cell_of_row _ _ 3 _ _ _ hg8; clear hg8 hg3 hb8 hB6 P0 P1 S0 hB68 hB36))
  go_ret
  exact ⟨rfl, hB3.trans (hB38.mono hB3.size)⟩

end Go.Proofs.Ytajkoeodabmgeaa
end
