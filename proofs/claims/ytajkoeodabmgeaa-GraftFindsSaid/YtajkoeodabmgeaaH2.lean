import Derived.RangeFuncNested
import Derived.RangeFuncBound
import Derived.RangeFuncCalls
import Derived.RangeFuncLeaves
import Derived.Shelf.Abstract
import Derived.Shelf.RegionOpen
import Derived.WalkKit
import Derived.OwnWalkIn
import Derived.TacticsInMore
import Derived.LoopNIn
import Derived.LoopIn
import Derived.Test.YtajkoeodabmgeaaH1
namespace Go.Proofs.Ytajkoeodabmgeaa
open Go.RowKit Go.Shelf
set_option maxHeartbeats 2000000
set_option maxRecDepth 100000
attribute [local go_sem] Oper.semAt_some

theorem grown_below {w w' : World} (h : Below w.heap.size w w') : w.grownBy w' none :=
  ⟨h.os, h.tape, h.output, h.size, fun k hk _ => h.block k hk⟩

theorem abides_below {β : Type} {B : Nat} {J : β → World → Prop} (hJ : AbidesFrom B J) {s : β} {W W' : World} (h : J s W) (hb : Below W.heap.size W W') : J s W' :=
  hJ s W W' none h (grown_below hb) (fun r e => by cases e)

def firstN (nd : NodeD) : Nat := if nd.kids.length = 0 then 1 else 2
def cutsN (nd : NodeD) : Nat := if nd.kids.length = 0 then nd.pairs.length - 1 else nd.kids.length - 3
/-- The places where a node may be cut. -/
def places (pg wd : Int) (nd : NodeD) : List Nat := if checkE pg wd nd = 0 then (List.range (cutsN nd)).map (firstN nd + ·) else []
def encCut (pg wd : Int) (nd : NodeD) (k : Nat) : Array Value := #[.int .i64 k, .agg #[.int .i64 (sizeE pg wd (halvesL nd k)), .int .i64 (sizeE pg wd (halvesR nd k))]]

theorem cuts_none (n : Nat) (hn : 1 ≤ n) (pg wd : Int) (A0 A1 A2 : Option Addr) (c0 c1 c2 : Nat) (nd : NodeD) (Bf Bn : Nat) (K : World → World → Prop) (w : World) (hc : checkE pg wd nd ≠ 0)
    (hN : ∀ W, Below w.heap.size w W → RdN W A0 c0 A1 c1 A2 c2 nd) (hf0 : w.cell? ⟨Bf, 0, none⟩ = some (.int .i64 pg)) (hf1 : w.cell? ⟨Bf, 1, none⟩ = some (.int .i64 wd))
    (hn0 : w.cell? ⟨Bn, 0, none⟩ = some (.slice A0 nd.pairs.length c0)) (hn1 : w.cell? ⟨Bn, 1, none⟩ = some (.slice A1 nd.seps.length c1)) (hn2 : w.cell? ⟨Bn, 2, none⟩ = some (.slice A2 nd.kids.length c2)) :
    SeqStopsK Fence.wide n Try.prog 73 #[.pointer (some ⟨Bf, 0, none⟩), .pointer (some ⟨Bn, 0, none⟩)] (encCut pg wd nd) K (fun xs => xs = places pg wd nd) (fun pre => pre <+: places pg wd nd) (places pg wd nd).length w := fun l J Jx W hW hJ hJx hY h0 => by
  clear hY hJx
  have hpl : places pg wd nd = [] := by simp [places, hc]
  have HPL := Lib.hid hpl
  have b1 : Bf < w.heap.size := World.block_lt_of_cell? _ _ hf0
  have b2 : Bn < w.heap.size := World.block_lt_of_cell? _ _ hn0
  have HN := Lib.hid hN
  have HJ := Lib.hid hJ
  have H0 := Lib.hid h0
  clear hpl hN hJ h0
  have q0 := (hW.cell (p := ⟨Bf, 0, none⟩) b1).trans hf0
  have q1 := (hW.cell (p := ⟨Bf, 1, none⟩) b1).trans hf1
  have HB := Lib.hid hW
  have r0 := (hW.cell (p := ⟨Bn, 0, none⟩) b2).trans hn0
  have r1 := (hW.cell (p := ⟨Bn, 1, none⟩) b2).trans hn1
  have r2 := (hW.cell (p := ⟨Bn, 2, none⟩) b2).trans hn2
  have b3 : Bf < W.heap.size := World.block_lt_of_cell? _ _ q0
  have b4 : Bn < W.heap.size := World.block_lt_of_cell? _ _ r0
  clear hW
  cases hr : right pg wd with
  | false =>
    have HR := Lib.hid hr
    clear hr
    refine callsIn_of_wp Try.func73 rfl trivial ?_ rfl
    simp only [Try.ntmps73, List.size_toArray, List.length_cons, List.length_nil, Nat.reduceAdd, Nat.reduceSub, Array.replicate_succ, Array.replicate_zero, List.push_toArray, List.append_toArray, List.nil_append, List.cons_append]
    gi_wp2_with (first
      | (refine ⟨trivial, ?_⟩; gi_at_call 61; refine (callsIn_wide.2 (frame_v pg wd _ _ HR.out)).mono ?_; rintro e w1 ⟨rfl, hb⟩))
    refine ⟨trivial, ?_⟩
    gi_wp2
    refine bodyPost_ret (results_none rfl _ _ _) rfl ?_
    exact ⟨⟨_, rfl⟩, .inl ⟨[], HPL.out.symm, abides_below HJ.out H0.out hb⟩⟩
  | true =>
    have HR := Lib.hid hr
    have hce : (checkE pg wd nd != 0) = true := by simpa using hc
    clear hr hc
    refine callsIn_of_wp Try.func73 rfl trivial ?_ rfl
    simp only [Try.ntmps73, List.size_toArray, List.length_cons, List.length_nil, Nat.reduceAdd, Nat.reduceSub, Array.replicate_succ, Array.replicate_zero, List.push_toArray, List.append_toArray, List.nil_append, List.cons_append]
    gi_wp2_with (first
      | (refine ⟨trivial, ?_⟩; gi_at_call 61; refine (callsIn_wide.2 (frame_v pg wd _ _ HR.out)).mono ?_; rintro e w1 ⟨rfl, hb⟩; have q2 := (hb.cell (p := ⟨Bf, 0, none⟩) b3).trans q0; have q3 := (hb.cell (p := ⟨Bf, 1, none⟩) b3).trans q1; have q4 := (hb.cell (p := ⟨Bn, 0, none⟩) b4).trans r0; have q5 := (hb.cell (p := ⟨Bn, 1, none⟩) b4).trans r1; have q6 := (hb.cell (p := ⟨Bn, 2, none⟩) b4).trans r2)
      | (refine ⟨trivial, ?_⟩; gi_at_call 74; refine (callsIn_wide.2 (check_c pg wd A0 A1 A2 c0 c1 c2 nd _ ((HN.out _ HB.out).below hb))).mono ?_; rintro e w2 ⟨rfl, hb2⟩))
    refine bodyPost_ret (results_none rfl _ _ _) rfl ?_
    exact ⟨⟨_, rfl⟩, .inl ⟨[], HPL.out.symm, abides_below HJ.out H0.out (hb.trans (hb2.mono hb.size))⟩⟩

end Go.Proofs.Ytajkoeodabmgeaa
