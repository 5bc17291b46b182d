import Derived.Test.YtajkoeodabmgeaaD3
import Derived.Test.YtajkoeodabmgeaaD2
namespace Go.Proofs.Ytajkoeodabmgeaa
open Go.RowKit
set_option maxHeartbeats 2000000
set_option maxRecDepth 100000
attribute [local go_sem] grow_cell grow_frozen grow_size

theorem two_nodes {w w1 : World} {a b c d e f : Value} (h : Below (w.heap.size + 1 + 1) ((w.alloc (.cells #[a, b, c] 29)).alloc (.cells #[d, e, f] 29)) w1) :
    (w1.cell? ⟨w.heap.size, 0, none⟩ = some a ∧ w1.cell? ⟨w.heap.size, 1, none⟩ = some b ∧ w1.cell? ⟨w.heap.size, 2, none⟩ = some c) ∧
    (w1.cell? ⟨w.heap.size + 1, 0, none⟩ = some d ∧ w1.cell? ⟨w.heap.size + 1, 1, none⟩ = some e ∧ w1.cell? ⟨w.heap.size + 1, 2, none⟩ = some f) ∧ w.heap.size + 1 < w1.heap.size := by
  have h0 : w1.heap[w.heap.size]? = some (.cells #[a, b, c] 29 (0, 0)) := (h.block _ (by omega)).trans ((Below.heap_alloc _ _ _ (by simp)).trans (heap_alloc_new w _))
  have h1 : w1.heap[w.heap.size + 1]? = some (.cells #[d, e, f] 29 (0, 0)) := (h.block _ (by omega)).trans (alloc2_at w _ _)
  have := h.size
  simp only [World.size_alloc] at this
  exact ⟨⟨cell_of_row _ _ 0 _ _ _ h0, cell_of_row _ _ 1 _ _ _ h0, cell_of_row _ _ 2 _ _ _ h0⟩, ⟨cell_of_row _ _ 0 _ _ _ h1, cell_of_row _ _ 1 _ _ _ h1, cell_of_row _ _ 2 _ _ _ h1⟩, by omega⟩

theorem RdN.nodes {w w1 : World} {A0 A1 A2 : Option Addr} {c0 c1 c2 : Nat} {nd : NodeD} {o p : Obj} (h : RdN w A0 c0 A1 c1 A2 c2 nd)
    (hb : Below (w.heap.size + 1 + 1) ((w.alloc o).alloc p) w1) : RdN w1 A0 c0 A1 c1 A2 c2 nd :=
  (h.below (((Below.refl _ _).alloc (Nat.le_refl _) _).alloc (by simp) _)).below (hb.mono (by simp))

/-- A load of a kid out of the middle of a block, in a region that draws its order. -/
theorem wpQuiet_load85 {w : World} {ops : Array Oper} {Q : Act → Prop} {a : Act} {o : Oper} {rest : List Oper} (hw : Region.wanted o (yielded ops a.tmps) = true) (x : Operand) (ho : o.op = .load 85 x)
    (b off : Nat) (hx : a.eval x = .pointer (some ⟨b, off, none⟩)) (k : KidD) (hl : k.sum.length = 32) (hr : w.rangeAt b off k.cells)
    (h : wpQuiet Try.prog ops (fun w' => ∃ x, w' = grow w x) Q rest (a.put o.dst (.agg (vK k)))) : wpQuiet Try.prog ops (fun w' => ∃ x, w' = grow w x) Q (o :: rest) a := by
  refine wpQuiet_step fun K hK => ?_
  rw [if_pos hw]
  refine ⟨.agg (vK k), ?_, hK _ h⟩
  rintro w' ⟨e, rfl⟩
  have hr' : (grow w e).rangeAt b off k.cells := fun j v hv => by
    have h1 := hr j v hv
    rw [grow_cell _ _ _ (World.block_lt_of_cell? _ _ h1)]
    exact h1
  unfold Oper.quietAt execOp
  simp only [ho, hx, Instr.loadAt, Instr.sureAddr, Sem.run_bind, Sem.run_pure, Result.andThen_ok, run_loadVar_mid (grow w e) b off 85 k.cells _ hr' Try.underlying85 rfl (by rw [show k.cells.length = 33 by simp [KidD.cells, hl]]; exact info85)]
  exact ⟨rfl, rfl⟩

theorem eqGuard85 : Try.prog.eqGuardType Try.prog.depth 85 = false := by kernel_rfl
theorem stood85 : Try.prog.stoodInHeld 85 = false := by kernel_rfl
theorem fields85 : Try.prog.underlying 85 = some (.struct (Try.prog.fieldsOf 85)) := by kernel_rfl
theorem fieldsOf85 : (Try.prog.fieldsOf 85).toList = [⟨"Page", 81, 0, false, "", "", 0⟩, ⟨"Sum", 83, 1, false, "", "", 4⟩] := by kernel_rfl

theorem partPage (k : KidD) (W : World) : (part 81 (vK k) 0).run Try.prog W = .ok (.int .u32 k.page) W := by
  simp [part, isAgg, run_underlying Try.underlying81, vK, KidD.cells]
theorem partSum (k : KidD) (hl : k.sum.length = 32) (W : World) : (part 83 (vK k) 1).run Try.prog W = .ok (.agg (vD k.sum)) W := by
  have hs : (sizeOf 83).run Try.prog W = .ok 32 W := by
    obtain ⟨i, hi, h1⟩ : ∃ i, Try.prog.info? 83 = some i ∧ i.size = 32 := by
      cases hq : Try.prog.info? 83 with
      | none => have := info83; simp [hq] at this
      | some i => exact ⟨i, rfl, by have := info83; simpa [hq] using this⟩
    simp [sizeOf, typeInfo, hi, h1]
  have he : (vK k).extract 1 (1 + 32) = vD k.sum := by
    have h1 : vK k = (#[Value.int .u32 k.page] ++ vD k.sum) := by simp [vK, KidD.cells, vD]
    rw [h1]
    have h2 : (vD k.sum).size = 32 := vD_size _ hl
    apply Array.ext
    · simp [h2]
    · intro i h3 h4
      simp
  simp only [part, isAgg, Sem.run_bind, run_underlying Try.underlying83, Result.andThen_ok, Sem.run_pure, hs, he, if_true]

def kidEq (a b : KidD) : Bool := (a.page == b.page) && decide (a.sum = b.sum)
theorem kidEq_refl (a : KidD) : kidEq a a = true := by simp [kidEq]

theorem equalIn_vK (a b : KidD) (ha : a.sum.length = 32) (hb : b.sum.length = 32) (W : World) :
    (Op.equalIn 10000 85 (.agg (vK a)) (.agg (vK b))).run Try.prog W = .ok (kidEq a b) W := by
  rw [run_equalIn_struct W 9999 85 _ _ fields85 stood85, fieldsOf85]
  have h1 : (Op.equalIn 9999 81 (.int .u32 a.page) (.int .u32 b.page)).run Try.prog W = .ok (a.page == b.page) W := run_equalIn_int W 9998 81 .u32 .u32 _ _ Try.underlying81
  have h2 := equalIn_vD a.sum b.sum ha hb 9997 83 Try.underlying83 W
  rw [Op.eqFields, if_pos (by decide)]
  simp only [Sem.run_bind, partPage, Result.andThen_ok, h1]
  cases hp : (a.page == b.page) with
  | false => simp [kidEq, hp]
  | true =>
    simp only [Bool.not_true, Bool.false_eq_true, if_false]
    rw [Op.eqFields, if_pos (by decide)]
    simp only [Sem.run_bind, partSum a ha, partSum b hb, Result.andThen_ok, h2]
    cases hs : decide (a.sum = b.sum) with
    | false => simp [kidEq, hs]
    | true => simp [kidEq, hs, hp, Op.eqFields]

theorem neq_vK (a b : KidD) (ha : a.sum.length = 32) (hb : b.sum.length = 32) (W : World) (x y : Operand) :
    (do eqGuard .neq 85 x y (.agg (vK a)) (.agg (vK b)); binOp .neq 85 (.agg (vK a)) (.agg (vK b)) : Sem Value).run Try.prog W = .ok (.bool (!kidEq a b)) W := by
  simp only [Sem.run_bind, run_eqGuard_agg W .neq 85 x y _ _ eqGuard85, Result.andThen_ok, run_neq_struct, equalIn_vK a b ha hb W]

/-- `!=` of two kids in a region that draws its order. -/
theorem wpQuiet_neq85 {C : World → Prop} {ops : Array Oper} {Q : Act → Prop} {a : Act} {o : Oper} {rest : List Oper} (hw : Region.wanted o (yielded ops a.tmps) = true) (x y : Operand) (ho : o.op = .binOp .neq 85 x y 85)
    (k l : KidD) (hx : a.eval x = .agg (vK k)) (hy : a.eval y = .agg (vK l)) (hk : k.sum.length = 32) (hl : l.sum.length = 32)
    (h : wpQuiet Try.prog ops C Q rest (a.put o.dst (.bool (!kidEq k l)))) : wpQuiet Try.prog ops C Q (o :: rest) a := by
  refine wpQuiet_step fun K hK => ?_
  rw [if_pos hw]
  refine ⟨.bool (!kidEq k l), ?_, hK _ h⟩
  intro W _
  unfold Oper.quietAt execOp
  simp only [ho, hx, hy]
  have := neq_vK k l hk hl W x y
  simp only [Sem.run_bind] at this ⊢
  rw [this]
  exact ⟨rfl, rfl⟩

end Go.Proofs.Ytajkoeodabmgeaa
