import Derived.Test.YtajkoeodabmgeaaB0g
namespace Go.Proofs.Ytajkoeodabmgeaa
open Go.RowKit

def vD (ds : List Int) : Array Value := (ds.map (.int .u8)).toArray

theorem vD_size (ds : List Int) (hl : ds.length = 32) : (vD ds).size = 32 := by simp [vD, hl]

theorem part5 (ds : List Int) (i : Nat) (h : i < ds.length) (w : World) : (part 5 (vD ds) i).run Try.prog w = .ok (.int .u8 ds[i]) w := by
  have h5 : Try.prog.underlying 5 = some (.int .u8) := Try.underlying5
  simp [part, isAgg, run_underlying h5, vD, h]

theorem size5 (w : World) : (sizeOf 5).run Try.prog w = .ok 1 w := by kernel_rfl

/-- Two rows of numbers, held against each other number by number. -/
def eqFrom (a b : List Int) : List Nat → Bool
  | [] => true
  | i :: l => (a.getD i 0 == b.getD i 0) && eqFrom a b l

theorem eqFrom_range (a b : List Int) (ha : a.length = 32) (hb : b.length = 32) : eqFrom a b (List.range' 0 32 1) = decide (a = b) := by
  have h : ∀ l : List Nat, eqFrom a b l = true ↔ ∀ i ∈ l, a.getD i 0 = b.getD i 0 := by
    intro l
    induction l with
    | nil => simp [eqFrom]
    | cons i l ih => simp only [eqFrom, Bool.and_eq_true, beq_iff_eq, ih, List.mem_cons, forall_eq_or_imp]
  rw [Bool.eq_iff_iff, h, decide_eq_true_iff]
  constructor
  · intro hh
    apply List.ext_getElem (by omega)
    intro i h1 h2
    have := hh i (by simp; omega)
    simpa [List.getD, h1, h2] using this
  · rintro rfl i _; rfl

theorem equalIn_vD (a b : List Int) (ha : a.length = 32) (hb : b.length = 32) (d : Nat) (t : TypeId) (ht : Try.prog.underlying t = some (.array 32 5)) (w : World) :
    (Op.equalIn (d + 2) t (.agg (vD a)) (.agg (vD b))).run Try.prog w = .ok (decide (a = b)) w := by
  rw [← eqFrom_range a b ha hb, Op.equalIn]
  simp only [Sem.run_bind, run_underlying ht, Result.andThen_ok, size5, Std.Legacy.Range.forIn_eq_forIn_range', Std.Legacy.Range.size, Nat.sub_zero, Nat.add_sub_cancel, Nat.div_one, Nat.mul_one]
  have hl : ∀ i ∈ List.range' 0 32 1, i < 32 := fun i hi => by simpa using (List.mem_range'_1.1 hi).2
  generalize List.range' 0 32 1 = l at hl ⊢
  induction l with
  | nil => simp [eqFrom]
  | cons i l ih =>
    have hi : i < 32 := hl i (by simp)
    have pe : (Op.equalIn (d + 1) 5 (.int .u8 (a[i]'(by omega))) (.int .u8 (b[i]'(by omega)))).run Try.prog w = .ok (a.getD i 0 == b.getD i 0) w := by
      rw [run_equalIn_int w d 5 .u8 .u8 _ _ Try.underlying5]
      simp [List.getD, ha, hb, hi]
    simp only [List.forIn_cons, Sem.run_bind, part5 a i (by omega) w, part5 b i (by omega) w, pe, Result.andThen_ok, eqFrom]
    cases hc : (a.getD i 0 == b.getD i 0)
    · simp
    · simp only [Bool.not_true, Bool.false_eq_true, if_false, Sem.run_pure, Result.andThen_ok, Bool.true_and]
      exact ih fun j hj => hl j (by simp [hj])

theorem eql_vD (a b : List Int) (ha : a.length = 32) (hb : b.length = 32) (w : World) :
    (binOp .eql 83 (.agg (vD a)) (.agg (vD b))).run Try.prog w = .ok (.bool (decide (a = b))) w := by
  rw [run_eql_struct, equalIn_vD a b ha hb 9998 83 Try.underlying83 w]
  rfl

end Go.Proofs.Ytajkoeodabmgeaa
