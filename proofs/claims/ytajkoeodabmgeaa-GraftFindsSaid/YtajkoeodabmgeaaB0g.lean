import Derived.Test.YtajkoeodabmgeaaB0
namespace Go.Proofs.Ytajkoeodabmgeaa
open Go.RowKit

/-- More blocks, and how many draws there were. -/
structure Ext where
  more : Array Obj
  draws : Nat

instance : Inhabited Ext := ⟨⟨#[], 0⟩⟩

/-- The world with more blocks behind its own, and draws. -/
def grow (w : World) (x : Ext) : World := { w with heap := w.heap ++ x.more, drawn := x.draws }

theorem grow_size (w : World) (x : Ext) : (grow w x).heap.size = w.heap.size + x.more.size := by simp [grow]
theorem grow_block (w : World) (x : Ext) (k : Nat) (h : k < w.heap.size) : (grow w x).heap[k]? = w.heap[k]? := by
  simp [grow, Array.getElem?_append, h]
theorem grow_cell (w : World) (x : Ext) (a : Addr) (h : a.block < w.heap.size) : (grow w x).cell? a = w.cell? a :=
  World.cell?_of_block (grow_block w x _ h)
theorem grow_frozen (w : World) (x : Ext) (a : Addr) (h : a.block < w.heap.size) : (grow w x).frozen? a = w.frozen? a :=
  World.frozen?_of_block (grow_block w x _ h)
theorem below_grow (w : World) (x : Ext) : Below w.heap.size w (grow w x) :=
  ⟨rfl, rfl, rfl, by simp [grow], fun k hk => grow_block w x k hk⟩
theorem grow_of_below {w w' : World} (h : Below w.heap.size w w') : ∃ x, w' = grow w x := by
  refine ⟨⟨w'.heap.extract w.heap.size w'.heap.size, w'.drawn⟩, ?_⟩
  have hh : w'.heap = w.heap ++ w'.heap.extract w.heap.size w'.heap.size := by
    apply Array.ext_getElem?
    intro i
    rw [Array.getElem?_append]
    split
    · rename_i hi; exact h.block i hi
    · rename_i hi
      have := h.size
      rw [Array.getElem?_extract]
      by_cases hj : i < w'.heap.size
      · rw [if_pos (by omega)]; congr 1; omega
      · rw [if_neg (by omega)]; simp; omega
  cases w with | mk heap tape drawn os output =>
  cases w' with | mk heap' tape' drawn' os' output' =>
  simp only [grow]
  have h1 := h.os; have h2 := h.tape; have h3 := h.output
  simp only at h1 h2 h3 hh
  subst h1 h2 h3
  congr 1

/-- A callee that only reads, or makes memory of its own: what it hands back hangs on no order. -/
theorem quiet_below {P : Program} {f : FuncId} {args : Array Value} {w : World} {x : Ext} {v : Value}
    (h : Calls P f args (grow w x) fun e w' => e = .returned v ∧ Below (grow w x).heap.size (grow w x) w') :
    Calls P f args (grow w x) fun e w'' => e = .returned v ∧ ∃ x', w'' = grow w x' :=
  h.mono fun _ _ ⟨he, hb⟩ => ⟨he, grow_of_below ((below_grow w x).trans (hb.mono (by simp [grow])))⟩

theorem wp_region_grow {P : Program} {id : Nat} {Q : Exit → Act → World → Prop} {a : Act} {w : World} {l : List Oper} (hm : P.follows .mixedOrders = true) (hB : Region.lexB .any l.toArray = true)
    (h : wpQuiet P l.toArray (fun w' => ∃ x, w' = grow w x) (fun a' => ∀ w', Below w.heap.size w w' → Q .normal a' w') l a) : (Code.region id l.toArray true).wp P Q a w :=
  wp_region_quiet (C := fun w' => ∃ x, w' = grow w x) hm hB ⟨⟨#[], w.drawn + 1⟩, by simp [grow]⟩ (by
    have e : (fun a' => ∀ w', Below w.heap.size w w' → Q .normal a' w') = (fun a' => ∀ w', (∃ x, w' = grow w x) → Q .normal a' w') := by
      funext a'
      apply propext
      constructor
      · rintro h1 w' ⟨x, n, rfl⟩; exact h1 _ (below_grow w x)
      · intro h1 w' hb; exact h1 _ (grow_of_below hb)
    rw [← e]; exact h)

/-- What was there reads as it did, and is as free as it was: two rules for the walk. -/
theorem bcell {W w1 : World} (hb : Below W.heap.size W w1) : (∀ b o, b < W.heap.size → w1.cell? ⟨b, o, none⟩ = W.cell? ⟨b, o, none⟩) ∧ (∀ b o, b < W.heap.size → w1.frozen? ⟨b, o, none⟩ = W.frozen? ⟨b, o, none⟩) :=
  ⟨fun b o h => hb.cell (p := ⟨b, o, none⟩) h, fun b o h => hb.frozen (p := ⟨b, o, none⟩) h⟩

section
variable {P : Program}
/-- A struct or an array as the first of two results. -/
theorem results_ct {fn : Func} {p u : Tmp} {ty : TypeId} (h : fn.results = #[.cell p ty, .tmp u]) (tmps : Array Value) (w : World) (g : Nat) (t : TypeId) (cs : Array Value) (fr : Nat × Nat) (d : TypeDesc)
    (hp : tmps.getD p undef = .pointer (some ⟨g, 0, none⟩)) (hg : w.heap[g]? = some (.cells cs t fr))
    (hu : P.underlying ty = some d) (hd : (match d with | .struct _ | .array _ _ => true | _ => false) = true) (hi : (P.info? ty).map (·.size) = some cs.size) :
    (results fn tmps).run P w = .ok (.tuple #[.agg cs, tmps.getD u undef]) w := by
  have hp' : tmps[p]?.getD undef = .pointer (some ⟨g, 0, none⟩) := by simpa using hp
  simp [results, h, hp', asAddr, run_loadVar_row w g t ty cs fr d hg hu hd hi]
/-- .. of three. -/
theorem results_ctt {fn : Func} {p u v : Tmp} {ty : TypeId} (h : fn.results = #[.cell p ty, .tmp u, .tmp v]) (tmps : Array Value) (w : World) (g : Nat) (t : TypeId) (cs : Array Value) (fr : Nat × Nat) (d : TypeDesc)
    (hp : tmps.getD p undef = .pointer (some ⟨g, 0, none⟩)) (hg : w.heap[g]? = some (.cells cs t fr))
    (hu : P.underlying ty = some d) (hd : (match d with | .struct _ | .array _ _ => true | _ => false) = true) (hi : (P.info? ty).map (·.size) = some cs.size) :
    (results fn tmps).run P w = .ok (.tuple #[.agg cs, tmps.getD u undef, tmps.getD v undef]) w := by
  have hp' : tmps[p]?.getD undef = .pointer (some ⟨g, 0, none⟩) := by simpa using hp
  simp [results, h, hp', asAddr, run_loadVar_row w g t ty cs fr d hg hu hd hi]
end

theorem loadAt_row {P : Program} (w : World) (g : Nat) (t ty : TypeId) (cs : Array Value) (fr : Nat × Nat) (d : TypeDesc) (hg : w.heap[g]? = some (.cells cs t fr))
    (hu : P.underlying ty = some d) (hd : (match d with | .struct _ | .array _ _ => true | _ => false) = true) (hi : (P.info? ty).map (·.size) = some cs.size) :
    (Instr.loadAt ty (.pointer (some ⟨g, 0, none⟩))).run P w = .ok (.agg cs) w := by
  simp only [Instr.loadAt, Instr.sureAddr, Sem.run_bind, Sem.run_pure, Result.andThen_ok, run_loadVar_row w g t ty cs fr d hg hu hd hi]

/-- The cells of a block; whether it is a block of so many, none of them frozen. -/
def rowOf (w : World) (g : Nat) : Array Value := match w.heap[g]? with | some (.cells cs _ _) => cs | _ => #[]
def isRow (w : World) (g n : Nat) : Bool := match w.heap[g]? with | some (.cells cs _ _) => cs.size == n | _ => false
theorem rowOf_eq {w : World} {g : Nat} {cs : Array Value} {t : TypeId} {fr : Nat × Nat} (h : w.heap[g]? = some (.cells cs t fr)) : rowOf w g = cs := by simp [rowOf, h]
theorem isRow_eq {w : World} {g n : Nat} {cs : Array Value} {t : TypeId} {fr : Nat × Nat} (h : w.heap[g]? = some (.cells cs t fr)) (hn : cs.size = n) : isRow w g n = true := by simp [isRow, h, hn]
theorem loadAt_isRow {P : Program} (w : World) (g n : Nat) (ty : TypeId) (d : TypeDesc) (h : isRow w g n = true)
    (hu : P.underlying ty = some d) (hd : (match d with | .struct _ | .array _ _ => true | _ => false) = true) (hi : (P.info? ty).map (·.size) = some n) :
    (Instr.loadAt ty (.pointer (some ⟨g, 0, none⟩))).run P w = .ok (.agg (rowOf w g)) w := by
  unfold isRow at h
  split at h
  · rename_i cs t fr hg
    rw [rowOf_eq hg]
    exact loadAt_row w g t ty cs fr d hg hu hd (by rw [hi]; exact congrArg some ((by simpa using h : cs.size = n).symm))
  · cases h

theorem setRow_block (w : World) (g : Nat) (cs old : Array Value) (t : TypeId) (fr : Nat × Nat) (h : w.heap[g]? = some (.cells old t fr)) : (w.setRow g cs).heap[g]? = some (.cells cs t fr) := by
  simp [World.setRow, Array.getElem?_modify, h]
theorem setRow_other (w : World) (g k : Nat) (cs : Array Value) (h : k ≠ g) : (w.setRow g cs).heap[k]? = w.heap[k]? := by
  simp only [World.setRow, Array.getElem?_modify]
  rw [if_neg (by omega)]
theorem below_setRow {B : Nat} {a w : World} (h : Below B a w) {g : Nat} (hg : B ≤ g) (cs : Array Value) : Below B a (w.setRow g cs) :=
  h.trans ⟨rfl, rfl, rfl, by simp [World.setRow], fun k hk => setRow_other _ _ _ _ (by omega)⟩

end Go.Proofs.Ytajkoeodabmgeaa
