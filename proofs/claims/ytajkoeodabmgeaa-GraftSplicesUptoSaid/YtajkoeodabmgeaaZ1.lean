import Derived.Test.YtajkoeodabmgeaaProg
import Derived.WalkKit
import Derived.WalkSpells
import Derived.WalkLawsBesides
import Derived.BigQuiet
import Derived.Deep.QuietTactic
import Derived.Lib.Hide
import Derived.Deep.DeepFit
import Derived.Deep.DeepMust
import Derived.Deep.RegionLaw
import Derived.Laws.CopyOwn
import Derived.Deep.MidRow

section
namespace Go.Proofs.Ytajkoeodabmgeaa
open Go.RowKit

/-- What a slice reads as: n elements of `size` cells each. -/
def Rd (w : World) (size : Nat) (A : Option Addr) (n : Nat) (xs : List Value) : Prop :=
  xs.length = n * size ∧ (0 < n → ∃ b o, A = some ⟨b, o, none⟩ ∧ ∀ j u, xs[j]? = some u → w.cell? ⟨b, o + j, none⟩ = some u)

structure PairD where
  k : ByteArray
  v : ByteArray

structure KidD where
  page : Int
  sum : List Int

structure NodeD where
  pairs : List PairD
  seps : List ByteArray
  kids : List KidD

def PairD.cells (p : PairD) : List Value := [.string p.k, .string p.v]
def KidD.cells (k : KidD) : List Value := .int .u32 k.page :: k.sum.map (.int .u8)
def pcells (l : List PairD) : List Value := l.flatMap PairD.cells
def scells (l : List ByteArray) : List Value := l.map .string
def kcells (l : List KidD) : List Value := l.flatMap KidD.cells

theorem add_block (a : Addr) (n : Nat) : (a.add n).block = a.block := by unfold Addr.add; split <;> rfl
theorem add_add (a : Addr) (i j : Nat) : (a.add i).add j = a.add (i + j) := by
  unfold Addr.add
  by_cases hi : i = 0 <;> by_cases hj : j = 0 <;> simp [hi, hj, Nat.add_assoc]

theorem Rd.below {w w' : World} {size n : Nat} {A : Option Addr} {xs : List Value} (h : Rd w size A n xs) (hb : Below w.heap.size w w') : Rd w' size A n xs :=
  ⟨h.1, fun hn => by
    obtain ⟨b, o, e, hc⟩ := h.2 hn
    exact ⟨b, o, e, fun j u hu => by
      have h1 := hc j u hu
      have h2 := World.block_lt_of_cell? w _ h1
      exact (hb.cell (p := ⟨b, o + j, none⟩) h2).trans h1⟩⟩

/-- The frame as a value; a pair; a node. -/
abbrev vF (pg wd : Int) : Value := .agg #[.int .i64 pg, .int .i64 wd]

structure RdN (w : World) (A0 : Option Addr) (c0 : Nat) (A1 : Option Addr) (c1 : Nat) (A2 : Option Addr) (c2 : Nat) (nd : NodeD) : Prop where
  pairs : Rd w 2 A0 nd.pairs.length (pcells nd.pairs)
  seps : Rd w 1 A1 nd.seps.length (scells nd.seps)
  kids : Rd w 33 A2 nd.kids.length (kcells nd.kids)
  hp : nd.pairs.length * 32 ≤ 140737488355328
  hs : nd.seps.length * 16 ≤ 140737488355328
  hk : nd.kids.length * 36 ≤ 140737488355328
  hcp : nd.pairs.length ≤ c0
  hcs : nd.seps.length ≤ c1
  hck : nd.kids.length ≤ c2
  pk : ∀ p ∈ nd.pairs, p.k.size ≤ 140737488355328 ∧ p.v.size ≤ 140737488355328
  sk : ∀ s ∈ nd.seps, s.size ≤ 140737488355328
  kk : ∀ k ∈ nd.kids, k.sum.length = 32

end Go.Proofs.Ytajkoeodabmgeaa
end

section
namespace Go.Proofs.Ytajkoeodabmgeaa
open Go.RowKit

/-- More blocks, and how many draws there were. -/
structure Ext where
  more : Array Obj
  draws : Nat

instance : Inhabited Ext := ⟨⟨#[], 0⟩⟩

/-- The world with more blocks behind its own, and draws. -/
def grow (w : World) (x : Ext) : World := { w with heap := w.heap ++ x.more, drawn := x.draws }

theorem grow_size (w : World) (x : Ext) : (grow w x).heap.size = w.heap.size + x.more.size := by simp [grow]
theorem grow_block (w : World) (x : Ext) (k : Nat) (h : k < w.heap.size) : (grow w x).heap[k]? = w.heap[k]? := by
  simp [grow, Array.getElem?_append, h]
theorem grow_cell (w : World) (x : Ext) (a : Addr) (h : a.block < w.heap.size) : (grow w x).cell? a = w.cell? a :=
  World.cell?_of_block (grow_block w x _ h)
theorem grow_frozen (w : World) (x : Ext) (a : Addr) (h : a.block < w.heap.size) : (grow w x).frozen? a = w.frozen? a :=
  World.frozen?_of_block (grow_block w x _ h)
theorem below_grow (w : World) (x : Ext) : Below w.heap.size w (grow w x) :=
  ⟨rfl, rfl, rfl, by simp [grow], fun k hk => grow_block w x k hk⟩
theorem grow_of_below {w w' : World} (h : Below w.heap.size w w') : ∃ x, w' = grow w x := by
  refine ⟨⟨w'.heap.extract w.heap.size w'.heap.size, w'.drawn⟩, ?_⟩
  have hh : w'.heap = w.heap ++ w'.heap.extract w.heap.size w'.heap.size := by
    apply Array.ext_getElem?
    intro i
    rw [Array.getElem?_append]
    split
    · rename_i hi; exact h.block i hi
    · rename_i hi
      have := h.size
      rw [Array.getElem?_extract]
      by_cases hj : i < w'.heap.size
      · rw [if_pos (by omega)]; congr 1; omega
      · rw [if_neg (by omega)]; simp; omega
  cases w with | mk heap tape drawn os output =>
  cases w' with | mk heap' tape' drawn' os' output' =>
  simp only [grow]
  have h1 := h.os; have h2 := h.tape; have h3 := h.output
  simp only at h1 h2 h3 hh
  subst h1 h2 h3
  congr 1

/-- A callee that only reads, or makes memory of its own: what it hands back hangs on no order. -/
theorem quiet_below {P : Program} {f : FuncId} {args : Array Value} {w : World} {x : Ext} {v : Value}
    (h : Calls P f args (grow w x) fun e w' => e = .returned v ∧ Below (grow w x).heap.size (grow w x) w') :
    Calls P f args (grow w x) fun e w'' => e = .returned v ∧ ∃ x', w'' = grow w x' :=
  h.mono fun _ _ ⟨he, hb⟩ => ⟨he, grow_of_below ((below_grow w x).trans (hb.mono (by simp [grow])))⟩

theorem wp_region_grow {P : Program} {id : Nat} {Q : Exit → Act → World → Prop} {a : Act} {w : World} {l : List Oper} (hm : P.follows .mixedOrders = true) (hB : Region.lexB .any l.toArray = true)
    (h : wpQuiet P l.toArray (fun w' => ∃ x, w' = grow w x) (fun a' => ∀ w', Below w.heap.size w w' → Q .normal a' w') l a) : (Code.region id l.toArray true).wp P Q a w :=
  wp_region_quiet (C := fun w' => ∃ x, w' = grow w x) hm hB ⟨⟨#[], w.drawn + 1⟩, by simp [grow]⟩ (by
    have e : (fun a' => ∀ w', Below w.heap.size w w' → Q .normal a' w') = (fun a' => ∀ w', (∃ x, w' = grow w x) → Q .normal a' w') := by
      funext a'
      apply propext
      constructor
      · rintro h1 w' ⟨x, n, rfl⟩; exact h1 _ (below_grow w x)
      · intro h1 w' hb; exact h1 _ (grow_of_below hb)
    rw [← e]; exact h)

/-- What was there reads as it did, and is as free as it was: two rules for the walk. -/
theorem bcell {W w1 : World} (hb : Below W.heap.size W w1) : (∀ b o, b < W.heap.size → w1.cell? ⟨b, o, none⟩ = W.cell? ⟨b, o, none⟩) ∧ (∀ b o, b < W.heap.size → w1.frozen? ⟨b, o, none⟩ = W.frozen? ⟨b, o, none⟩) :=
  ⟨fun b o h => hb.cell (p := ⟨b, o, none⟩) h, fun b o h => hb.frozen (p := ⟨b, o, none⟩) h⟩

section
variable {P : Program}
/-- A struct or an array as the first of two results. -/
theorem results_ct {fn : Func} {p u : Tmp} {ty : TypeId} (h : fn.results = #[.cell p ty, .tmp u]) (tmps : Array Value) (w : World) (g : Nat) (t : TypeId) (cs : Array Value) (fr : Nat × Nat) (d : TypeDesc)
    (hp : tmps.getD p undef = .pointer (some ⟨g, 0, none⟩)) (hg : w.heap[g]? = some (.cells cs t fr))
    (hu : P.underlying ty = some d) (hd : (match d with | .struct _ | .array _ _ => true | _ => false) = true) (hi : (P.info? ty).map (·.size) = some cs.size) :
    (results fn tmps).run P w = .ok (.tuple #[.agg cs, tmps.getD u undef]) w := by
  have hp' : tmps[p]?.getD undef = .pointer (some ⟨g, 0, none⟩) := by simpa using hp
  simp [results, h, hp', asAddr, run_loadVar_row w g t ty cs fr d hg hu hd hi]
/-- .. of three. -/
theorem results_ctt {fn : Func} {p u v : Tmp} {ty : TypeId} (h : fn.results = #[.cell p ty, .tmp u, .tmp v]) (tmps : Array Value) (w : World) (g : Nat) (t : TypeId) (cs : Array Value) (fr : Nat × Nat) (d : TypeDesc)
    (hp : tmps.getD p undef = .pointer (some ⟨g, 0, none⟩)) (hg : w.heap[g]? = some (.cells cs t fr))
    (hu : P.underlying ty = some d) (hd : (match d with | .struct _ | .array _ _ => true | _ => false) = true) (hi : (P.info? ty).map (·.size) = some cs.size) :
    (results fn tmps).run P w = .ok (.tuple #[.agg cs, tmps.getD u undef, tmps.getD v undef]) w := by
  have hp' : tmps[p]?.getD undef = .pointer (some ⟨g, 0, none⟩) := by simpa using hp
  simp [results, h, hp', asAddr, run_loadVar_row w g t ty cs fr d hg hu hd hi]
end

theorem loadAt_row {P : Program} (w : World) (g : Nat) (t ty : TypeId) (cs : Array Value) (fr : Nat × Nat) (d : TypeDesc) (hg : w.heap[g]? = some (.cells cs t fr))
    (hu : P.underlying ty = some d) (hd : (match d with | .struct _ | .array _ _ => true | _ => false) = true) (hi : (P.info? ty).map (·.size) = some cs.size) :
    (Instr.loadAt ty (.pointer (some ⟨g, 0, none⟩))).run P w = .ok (.agg cs) w := by
  simp only [Instr.loadAt, Instr.sureAddr, Sem.run_bind, Sem.run_pure, Result.andThen_ok, run_loadVar_row w g t ty cs fr d hg hu hd hi]

/-- The cells of a block; whether it is a block of so many, none of them frozen. -/
def rowOf (w : World) (g : Nat) : Array Value := match w.heap[g]? with | some (.cells cs _ _) => cs | _ => #[]
def isRow (w : World) (g n : Nat) : Bool := match w.heap[g]? with | some (.cells cs _ _) => cs.size == n | _ => false
theorem rowOf_eq {w : World} {g : Nat} {cs : Array Value} {t : TypeId} {fr : Nat × Nat} (h : w.heap[g]? = some (.cells cs t fr)) : rowOf w g = cs := by simp [rowOf, h]
theorem isRow_eq {w : World} {g n : Nat} {cs : Array Value} {t : TypeId} {fr : Nat × Nat} (h : w.heap[g]? = some (.cells cs t fr)) (hn : cs.size = n) : isRow w g n = true := by simp [isRow, h, hn]
theorem loadAt_isRow {P : Program} (w : World) (g n : Nat) (ty : TypeId) (d : TypeDesc) (h : isRow w g n = true)
    (hu : P.underlying ty = some d) (hd : (match d with | .struct _ | .array _ _ => true | _ => false) = true) (hi : (P.info? ty).map (·.size) = some n) :
    (Instr.loadAt ty (.pointer (some ⟨g, 0, none⟩))).run P w = .ok (.agg (rowOf w g)) w := by
  unfold isRow at h
  split at h
  · rename_i cs t fr hg
    rw [rowOf_eq hg]
    exact loadAt_row w g t ty cs fr d hg hu hd (by rw [hi]; exact congrArg some ((by simpa using h : cs.size = n).symm))
  · cases h

theorem setRow_block (w : World) (g : Nat) (cs old : Array Value) (t : TypeId) (fr : Nat × Nat) (h : w.heap[g]? = some (.cells old t fr)) : (w.setRow g cs).heap[g]? = some (.cells cs t fr) := by
  simp [World.setRow, Array.getElem?_modify, h]
theorem setRow_other (w : World) (g k : Nat) (cs : Array Value) (h : k ≠ g) : (w.setRow g cs).heap[k]? = w.heap[k]? := by
  simp only [World.setRow, Array.getElem?_modify]
  rw [if_neg (by omega)]
theorem below_setRow {B : Nat} {a w : World} (h : Below B a w) {g : Nat} (hg : B ≤ g) (cs : Array Value) : Below B a (w.setRow g cs) :=
  h.trans ⟨rfl, rfl, rfl, by simp [World.setRow], fun k hk => setRow_other _ _ _ _ (by omega)⟩

end Go.Proofs.Ytajkoeodabmgeaa
end

section
namespace Go.Proofs.Ytajkoeodabmgeaa
open Go.RowKit
set_option maxHeartbeats 400000

theorem ret_eq {a b : Value} (h : a = b) : Ending.returned a = .returned b := by rw [h]

theorem maxKey_c (pg wd : Int) (w : World) (h0 : 0 ≤ pg) (h1 : pg ≤ 8192) :
    Calls Try.prog 63 #[vF pg wd] w fun e w' => e = .returned (.int .i64 (pg / 16)) ∧ Below w.heap.size w w' := by
  go_enter Try.func63, Try.ntmps63
  go_wp2
  go_ret
  exact ⟨rfl, (Below.refl _ _).alloc (Nat.le_refl _) _⟩

theorem maxVal_c (pg wd : Int) (w : World) (h0 : 0 ≤ pg) (h1 : pg ≤ 8192) :
    Calls Try.prog 64 #[vF pg wd] w fun e w' => e = .returned (.int .i64 (pg / 8)) ∧ Below w.heap.size w w' := by
  go_enter Try.func64, Try.ntmps64
  go_wp2
  go_ret
  exact ⟨rfl, (Below.refl _ _).alloc (Nat.le_refl _) _⟩

theorem room_c (pg wd : Int) (w : World) (h0 : 0 ≤ pg) (h1 : pg ≤ 8192) :
    Calls Try.prog 80 #[vF pg wd] w fun e w' => e = .returned (.int .i64 (pg - 32)) ∧ Below w.heap.size w w' := by
  go_enter Try.func80, Try.ntmps80
  go_wp2
  go_ret
  exact ⟨rfl, (Below.refl _ _).alloc (Nat.le_refl _) _⟩

/-- A world behind a block of the call's own and a call. -/
theorem below_a {w w1 : World} {o : Obj} (hb : Below (w.alloc o).heap.size (w.alloc o) w1) : Below w.heap.size w w1 :=
  ((Below.refl _ _).alloc (Nat.le_refl _) _).trans (hb.mono (by simp))

theorem below_s1 {B : Nat} {a w w1 : World} {o : Obj} (h : Below B a w) (hB : B ≤ w.heap.size) (hb : Below (w.alloc o).heap.size (w.alloc o) w1) : Below B a w1 :=
  (h.alloc hB o).trans (hb.mono (by simp; omega))
theorem below_s0 {B : Nat} {a w w1 : World} (h : Below B a w) (hB : B ≤ w.heap.size) (hb : Below w.heap.size w w1) : Below B a w1 :=
  h.trans (hb.mono hB)

theorem least_c (pg wd : Int) (w : World) (h0 : 1024 ≤ pg) (h1 : pg ≤ 8192) :
    Calls Try.prog 81 #[vF pg wd] w fun e w' => e = .returned (.int .i64 ((pg - 30) / 3)) ∧ Below w.heap.size w w' := by
  go_enter Try.func81, Try.ntmps81
  go_wp2_with (go_at_call 80; refine (room_c pg wd _ (by omega) (by omega)).mono ?_; rintro e w1 ⟨rfl, hb⟩)
  go_ret
  exact ⟨ret_eq (show Value.int IntKind.i64 ((pg - 32 + 2) / 3) = _ by rw [show pg - 32 + 2 = pg - 30 by omega]), below_a hb⟩

theorem isLeaf_c (A0 A1 A2 : Option Addr) (n0 c0 n1 c1 n2 c2 : Nat) (w : World) (b : Bool) (hb : decide (n1 = 0 ∧ n2 = 0) = b) :
    Calls Try.prog 93 #[.agg #[.slice A0 n0 c0, .slice A1 n1 c1, .slice A2 n2 c2]] w fun e w' => e = .returned (.bool b) ∧ Below w.heap.size w w' := by
  subst hb
  by_cases h1 : n1 = 0 <;> by_cases h2 : n2 = 0
  all_goals
    go_enter Try.func93, Try.ntmps93
    go_wp2
    go_ret
    exact ⟨ret_eq (by simp [h1, h2]), (Below.refl _ _).alloc (Nat.le_refl _) _⟩

def right (pg wd : Int) : Bool := decide ((pg = 1024 ∨ pg = 2048 ∨ pg = 4096 ∨ pg = 8192) ∧ 1 ≤ wd ∧ wd ≤ 32)

theorem index_c (A : Option Addr) (c : Nat) (l : List Int) (x : Int) (w : World) (hR : Rd w 1 A l.length (l.map (.int .i64))) (hl : l.length ≤ 65536) :
    Calls Try.prog 105 #[.slice A l.length c, .int .i64 x] w fun e w' => (∃ r : Int, e = .returned (.int .i64 r) ∧ (0 ≤ r ↔ x ∈ l)) ∧ w = w' := by
  go_enter Try.func105, Try.ntmps105
  go_wp2
  go_loop [8] (fun i => ∃ k : Nat, k ≤ l.length ∧ i = .int .i64 k ∧ ∀ j (h : j < k) (h' : j < l.length), l[j] ≠ x) (fun i => l.length - (intOf i).toNat)
  case atStart => exact ⟨0, Nat.zero_le _, rfl, fun j h => absurd h (by omega)⟩
  case round =>
    obtain ⟨k, hk, rfl, hno⟩ := hrel
    have HN := Lib.hid hno
    clear hno
    by_cases hlt : k < l.length
    · obtain ⟨ab, ao, rfl, hc⟩ := hR.2 (by omega)
      have hcell : w.cell? ⟨ab, ao + k, none⟩ = some (.int .i64 l[k]) := hc k _ (by simp [hlt])
      have hs := hR.1
      clear hc hs hR
      by_cases hx : x = l[k]
      · have hx1 : (x == l[k]) = true := by simpa using hx
        have HX := Lib.hid hx
        clear hx
        go_wp2
        go_ret
        exact ⟨⟨(k : Int), rfl, by have := HX.out; simp [this]⟩, rfl⟩
      · have hx1 : (x == l[k]) = false := by simpa using hx
        have HX := Lib.hid hx
        clear hx
        go_wp2
        go_round
        case rel => exact ⟨k + 1, by omega, by go_num, fun j h h' => by
          by_cases e : j = k
          · subst e; exact fun e' => HX.out e'.symm
          · exact HN.out j (by omega) h'⟩
        case measure => simp [intOf]; omega
    · go_wp2
      go_ret
      exact ⟨⟨-1, rfl, by
        constructor
        · omega
        · intro hm
          obtain ⟨j, hj, e⟩ := List.getElem_of_mem hm
          exact absurd e (HN.out j (by omega) hj)⟩, rfl⟩

end Go.Proofs.Ytajkoeodabmgeaa
end

section
namespace Go.Proofs.Ytajkoeodabmgeaa
open Go.RowKit
set_option maxHeartbeats 400000
set_option maxRecDepth 100000
attribute [local go_sem] grow_cell grow_frozen grow_size

theorem check1_c (k v : ByteArray) (pg wd : Int) (g : Nat) (w : World) (h0 : 0 ≤ pg) (h1 : pg ≤ 8192) (_hv : v.size ≤ 140737488355328)
    (hc0 : w.cell? ⟨g, 0, none⟩ = some (.int .i64 pg)) (hc1 : w.cell? ⟨g, 1, none⟩ = some (.int .i64 wd)) :
    Calls Try.prog 94 #[.agg #[.string k, .string v], .pointer (some ⟨g, 0, none⟩)] w fun e w' => e = .returned (.bool (decide (pg / 8 < v.size))) ∧ Below w.heap.size w w' := by
  have hg : g < w.heap.size := World.block_lt_of_cell? w _ hc0
  have hg1 : g < w.heap.size + 1 := by omega
  go_enter Try.func94, Try.ntmps94
  go_wp2
  refine wp_region_grow (by kernel_rfl) (by kernel_rfl) ?_
  repeat (any_goals (first | go_big_quiet_step ((go_at_call 64; exact quiet_below (maxVal_c pg wd _ h0 h1))) | quiet_step ((go_at_call 64; exact quiet_below (maxVal_c pg wd _ h0 h1)))))
  refine wpQuiet_nil ?_
  intro w1 hb
  go_wp2
  go_ret
  exact ⟨rfl, below_a hb⟩

theorem check2_c (k v : ByteArray) (w : World) :
    Calls Try.prog 96 #[.agg #[.string k, .string v]] w fun e w' => e = .returned (.string k) ∧ Below w.heap.size w w' := by
  go_enter Try.func96, Try.ntmps96
  go_wp2
  go_ret
  exact ⟨rfl, (Below.refl _ _).alloc (Nat.le_refl _) _⟩

theorem check4_c (k : ByteArray) (w : World) :
    Calls Try.prog 102 #[.string k] w fun e w' => e = .returned (.string k) ∧ Below w.heap.size w w' := by
  go_enter Try.func102, Try.ntmps102
  go_wp2
  go_ret
  exact ⟨rfl, Below.refl _ _⟩

theorem contains_c (A : Option Addr) (c : Nat) (l : List Int) (x : Int) (w : World) (hR : Rd w 1 A l.length (l.map (.int .i64))) (hl : l.length ≤ 65536) :
    Calls Try.prog 83 #[.slice A l.length c, .int .i64 x] w fun e w' => e = .returned (.bool (decide (x ∈ l))) ∧ w = w' := by
  go_enter Try.func83, Try.ntmps83
  go_wp2_with (go_at_call 105; refine (index_c A c l x w hR hl).mono ?_; rintro e w' ⟨⟨r, rfl, hr⟩, rfl⟩; have HR := Lib.hid hr; clear hr)
  go_ret
  exact ⟨ret_eq (show Value.bool (decide (0 ≤ r)) = _ by simp [HR.out]), rfl⟩

theorem right_c (pg wd : Int) (w : World) :
    Calls Try.prog 41 #[vF pg wd] w fun e w' => e = .returned (.bool (right pg wd)) ∧ Below w.heap.size w w' := by
  have hR : ∀ (W : World) (g : Nat) (_ : g = W.heap.size), Rd (W.alloc (.cells #[.int .i64 1024, .int .i64 2048, .int .i64 4096, .int .i64 8192] 3)) 1 (some ⟨g, 0, none⟩) [(1024 : Int), 2048, 4096, 8192].length ([(1024 : Int), 2048, 4096, 8192].map (.int .i64)) := by
    rintro W g rfl
    refine ⟨rfl, fun _ => ⟨_, _, rfl, fun j u hu => ?_⟩⟩
    rw [Nat.zero_add, cell_of_row _ W.heap.size j _ _ _ (heap_alloc_new W _)]
    simpa using hu
  by_cases hm : pg ∈ [(1024 : Int), 2048, 4096, 8192]
  · have hm1 : decide (pg ∈ [(1024 : Int), 2048, 4096, 8192]) = true := decide_eq_true hm
    have h3 : (1 ≤ wd ∧ wd ≤ 32) ∨ (1 ≤ wd ∧ ¬ wd ≤ 32) ∨ (¬ 1 ≤ wd) := by omega
    rcases h3 with ⟨h1, h2⟩ | ⟨h1, h2⟩ | h1
    all_goals
      have HM := Lib.hid hm
      have HM1 := Lib.hid hm1
      clear hm hm1
      go_enter Try.func41, Try.ntmps41
      go_wp2_with (go_at_call 83; refine (contains_c _ _ [1024, 2048, 4096, 8192] pg _ (hR _ _ (by simp)) (by decide)).mono ?_; rw [HM1.out]; rintro e w' ⟨rfl, rfl⟩)
      go_ret
      exact ⟨ret_eq (by have := HM.out; simp only [List.mem_cons, List.not_mem_nil, or_false] at this; simp [right, this]; omega), ((Below.refl _ _).alloc (Nat.le_refl _) _).alloc (by simp) _⟩
  · have hm1 : decide (pg ∈ [(1024 : Int), 2048, 4096, 8192]) = false := decide_eq_false hm
    have HM := Lib.hid hm
    have HM1 := Lib.hid hm1
    clear hm hm1
    go_enter Try.func41, Try.ntmps41
    go_wp2_with (go_at_call 83; refine (contains_c _ _ [1024, 2048, 4096, 8192] pg _ (hR _ _ (by simp)) (by decide)).mono ?_; rw [HM1.out]; rintro e w' ⟨rfl, rfl⟩)
    go_ret
    exact ⟨ret_eq (by have := HM.out; simp only [List.mem_cons, List.not_mem_nil, or_false] at this; simp [right, this]), ((Below.refl _ _).alloc (Nat.le_refl _) _).alloc (by simp) _⟩

theorem frame_c (pg wd : Int) (w : World) :
    Calls Try.prog 61 #[vF pg wd] w fun e w' => e = .returned (.bool (right pg wd)) ∧ Below w.heap.size w w' := by
  go_enter Try.func61, Try.ntmps61
  go_wp2_with (go_at_call 41; refine (right_c pg wd _).mono ?_; rintro e w1 ⟨rfl, hb⟩)
  go_ret
  exact ⟨rfl, below_a hb⟩

/-- How many bytes a free number has. -/
def cnt (n : Nat) : Nat := if n < 128 then 1 else cnt (n / 128) + 1
termination_by n
decreasing_by omega

theorem cnt_pos (n : Nat) : 1 ≤ cnt n := by unfold cnt; split <;> omega
theorem cnt_le (n : Nat) : cnt n ≤ n + 1 := by
  induction n using Nat.strongRecOn with
  | ind n ih =>
    unfold cnt
    split
    · omega
    · have := ih (n / 128) (by omega); omega

theorem count_c (n : Nat) (w : World) (hn : n ≤ 140737488355328) :
    Calls Try.prog 103 #[.int .i64 n] w fun e w' => e = .returned (.int .i64 (cnt n)) ∧ w = w' := by
  go_enter Try.func103, Try.ntmps103
  go_wp2
  go_loop [0, 3] (fun a k => ∃ m j : Nat, m ≤ n ∧ j + m ≤ n + 1 ∧ a = .int .i64 m ∧ k = .int .i64 j ∧ cnt n + 1 = cnt m + j) (fun a _ => (intOf a).toNat)
  case atStart => exact ⟨n, 1, Nat.le_refl _, by omega, rfl, rfl, rfl⟩
  case round =>
    obtain ⟨m, j, hm, hj, rfl, rfl, hcn⟩ := hrel
    have HC := Lib.hid hcn
    clear hcn
    by_cases hlt : m < 128
    · go_wp2
      go_ret
      exact ⟨ret_eq (show Value.int IntKind.i64 (j : Int) = _ by have := HC.out; unfold cnt at this; rw [if_pos hlt] at this; congr 1; unfold cnt; omega), rfl⟩
    · go_wp2
      go_round
      case rel => exact ⟨m / 128, j + 1, by omega, by omega, by go_num, by go_num, by have := HC.out; rw [show cnt m = cnt (m / 128) + 1 by rw [cnt, if_neg hlt]] at this; omega⟩
      case measure => simp [intOf]; omega

theorem text_c (s : ByteArray) (w : World) (hn : s.size ≤ 140737488355328) :
    Calls Try.prog 104 #[.string s] w fun e w' => e = .returned (.int .i64 ((cnt s.size + s.size : Nat) : Int)) ∧ w = w' := by
  have := cnt_le s.size
  go_enter Try.func104, Try.ntmps104
  go_wp2_with (go_at_call 103; refine (count_c s.size w hn).mono ?_; rintro e w1 ⟨rfl, rfl⟩)
  go_ret
  exact ⟨rfl, rfl⟩

theorem wide_c (wd : Int) (w : World) :
    Calls Try.prog 115 #[.int .i64 wd] w fun e w' => e = .returned (.bool (decide (1 ≤ wd ∧ wd ≤ 32))) ∧ w = w' := by
  by_cases h1 : 1 ≤ wd <;> by_cases h2 : wd ≤ 32
  all_goals
    go_enter Try.func115, Try.ntmps115
    go_wp2
    go_ret
    exact ⟨ret_eq (by simp [h1, h2]), rfl⟩

end Go.Proofs.Ytajkoeodabmgeaa
end

section
namespace Go.Proofs.Ytajkoeodabmgeaa
open Go.RowKit

def vD (ds : List Int) : Array Value := (ds.map (.int .u8)).toArray

theorem vD_size (ds : List Int) (hl : ds.length = 32) : (vD ds).size = 32 := by simp [vD, hl]

theorem part5 (ds : List Int) (i : Nat) (h : i < ds.length) (w : World) : (part 5 (vD ds) i).run Try.prog w = .ok (.int .u8 ds[i]) w := by
  have h5 : Try.prog.underlying 5 = some (.int .u8) := Try.underlying5
  simp [part, isAgg, run_underlying h5, vD, h]

theorem size5 (w : World) : (sizeOf 5).run Try.prog w = .ok 1 w := by kernel_rfl

/-- Two rows of numbers, held against each other number by number. -/
def eqFrom (a b : List Int) : List Nat → Bool
  | [] => true
  | i :: l => (a.getD i 0 == b.getD i 0) && eqFrom a b l

theorem eqFrom_range (a b : List Int) (ha : a.length = 32) (hb : b.length = 32) : eqFrom a b (List.range' 0 32 1) = decide (a = b) := by
  have h : ∀ l : List Nat, eqFrom a b l = true ↔ ∀ i ∈ l, a.getD i 0 = b.getD i 0 := by
    intro l
    induction l with
    | nil => simp [eqFrom]
    | cons i l ih => simp only [eqFrom, Bool.and_eq_true, beq_iff_eq, ih, List.mem_cons, forall_eq_or_imp]
  rw [Bool.eq_iff_iff, h, decide_eq_true_iff]
  constructor
  · intro hh
    apply List.ext_getElem (by omega)
    intro i h1 h2
    have := hh i (by simp; omega)
    simpa [List.getD, h1, h2] using this
  · rintro rfl i _; rfl

theorem equalIn_vD (a b : List Int) (ha : a.length = 32) (hb : b.length = 32) (d : Nat) (t : TypeId) (ht : Try.prog.underlying t = some (.array 32 5)) (w : World) :
    (Op.equalIn (d + 2) t (.agg (vD a)) (.agg (vD b))).run Try.prog w = .ok (decide (a = b)) w := by
  rw [← eqFrom_range a b ha hb, Op.equalIn]
  simp only [Sem.run_bind, run_underlying ht, Result.andThen_ok, size5, Std.Legacy.Range.forIn_eq_forIn_range', Std.Legacy.Range.size, Nat.sub_zero, Nat.add_sub_cancel, Nat.div_one, Nat.mul_one]
  have hl : ∀ i ∈ List.range' 0 32 1, i < 32 := fun i hi => by simpa using (List.mem_range'_1.1 hi).2
  generalize List.range' 0 32 1 = l at hl ⊢
  induction l with
  | nil => simp [eqFrom]
  | cons i l ih =>
    have hi : i < 32 := hl i (by simp)
    have pe : (Op.equalIn (d + 1) 5 (.int .u8 (a[i]'(by omega))) (.int .u8 (b[i]'(by omega)))).run Try.prog w = .ok (a.getD i 0 == b.getD i 0) w := by
      rw [run_equalIn_int w d 5 .u8 .u8 _ _ Try.underlying5]
      simp [List.getD, ha, hb, hi]
    simp only [List.forIn_cons, Sem.run_bind, part5 a i (by omega) w, part5 b i (by omega) w, pe, Result.andThen_ok, eqFrom]
    cases hc : (a.getD i 0 == b.getD i 0)
    · simp
    · simp only [Bool.not_true, Bool.false_eq_true, if_false, Sem.run_pure, Result.andThen_ok, Bool.true_and]
      exact ih fun j hj => hl j (by simp [hj])

theorem eql_vD (a b : List Int) (ha : a.length = 32) (hb : b.length = 32) (w : World) :
    (binOp .eql 83 (.agg (vD a)) (.agg (vD b))).run Try.prog w = .ok (.bool (decide (a = b))) w := by
  rw [run_eql_struct, equalIn_vD a b ha hb 9998 83 Try.underlying83 w]
  rfl

end Go.Proofs.Ytajkoeodabmgeaa
end

section
namespace Go.Proofs.Ytajkoeodabmgeaa
open Go.RowKit
set_option maxHeartbeats 400000
set_option maxRecDepth 100000
attribute [local go_sem] grow_cell grow_frozen grow_size

def fitsB (wd : Int) (ds : List Int) : Bool := decide (∀ j (h : j < ds.length), wd ≤ j → ds[j] = 0)

theorem vD_get (ds : List Int) (j : Nat) (h : j < ds.length) : (vD ds)[j]? = some (.int .u8 ds[j]) := by simp [vD, h]

theorem fitsR_c (wd : Nat) (ds : List Int) (w : World) (hl : ds.length = 32) (h2 : wd ≤ 32) :
    Calls Try.prog 111 #[.int .i64 wd, .agg (vD ds)] w fun e w' => e = .returned (.bool (fitsB wd ds)) ∧ Below w.heap.size w w' := by
  have hcell : ∀ j (h : j < ds.length), (w.alloc (.cells (vD ds) 83)).cell? ⟨w.heap.size, j, none⟩ = some (.int .u8 ds[j]) := fun j h => by
    rw [cell_of_row _ w.heap.size j _ _ _ (heap_alloc_new w _), vD_get ds j h]
  have HC := Lib.hid hcell
  have HL := Lib.hid hl
  clear hcell hl
  go_enter Try.func111, Try.ntmps111
  go_wp2
  go_loop [5] (fun i => ∃ k : Nat, wd ≤ k ∧ k ≤ 32 ∧ i = .int .i64 k ∧ ∀ j (h : j < ds.length), wd ≤ j → j < k → ds[j] = 0) (fun i => 32 - (intOf i).toNat)
  case atStart => exact ⟨wd, Nat.le_refl _, h2, rfl, fun j h h1 h2 => by omega⟩
  case round =>
    obtain ⟨k, hk1, hk2, rfl, hz⟩ := hrel
    have HZ := Lib.hid hz
    clear hz
    by_cases hlt : k < 32
    · have hkl : k < ds.length := by have := HL.out; omega
      have hc := HC.out k hkl
      by_cases h0 : ds[k] = 0
      · have hb : (ds[k] != 0) = false := by simp [h0]
        have H0 := Lib.hid h0
        clear h0
        go_wp2
        go_round
        case rel => exact ⟨k + 1, by omega, by omega, by go_num, fun j h h1 h2 => by
          by_cases e : j = k
          · subst e; exact H0.out
          · exact HZ.out j h h1 (by omega)⟩
        case measure => simp [intOf]; omega
      · have hb : (ds[k] != 0) = true := by simp [h0]
        have H0 := Lib.hid h0
        clear h0
        go_wp2
        go_ret
        exact ⟨ret_eq (show Value.bool false = _ by
          rw [show fitsB wd ds = false from decide_eq_false (fun h => H0.out (h k hkl (by omega)))]), (Below.refl _ _).alloc (Nat.le_refl _) _⟩
    · go_wp2
      go_ret
      exact ⟨ret_eq (show Value.bool true = _ by
          rw [show fitsB wd ds = true from decide_eq_true (fun j h h1 => HZ.out j h (by omega) (by have := HL.out; omega))]), (Below.refl _ _).alloc (Nat.le_refl _) _⟩

def cutD (wd : Nat) (ds : List Int) : List Int := ds.take wd ++ List.replicate (32 - wd) 0

theorem alloc2_at (w : World) (A B : Obj) : ((w.alloc A).alloc B).heap[w.heap.size + 1]? = some B := by
  have := heap_alloc_new (w.alloc A) B
  rwa [show (w.alloc A).heap.size = w.heap.size + 1 by simp] at this
theorem alloc3_at (w : World) (A B C : Obj) : (((w.alloc A).alloc B).alloc C).heap[w.heap.size + 1 + 1]? = some C := by
  have := heap_alloc_new ((w.alloc A).alloc B) C
  rwa [show ((w.alloc A).alloc B).heap.size = w.heap.size + 1 + 1 by simp] at this
theorem alloc3_1 (w : World) (A B C : Obj) : (((w.alloc A).alloc B).alloc C).heap[w.heap.size + 1]? = some B := by
  rw [Below.heap_alloc _ _ _ (by simp), alloc2_at]
theorem alloc3_0 (w : World) (A B C : Obj) : (((w.alloc A).alloc B).alloc C).heap[w.heap.size]? = some A := by
  rw [Below.heap_alloc _ _ _ (by simp; omega), Below.heap_alloc _ _ _ (by simp), heap_alloc_new]

/-- The digest of noughts, as the walk writes it. -/
theorem cut_hg (w : World) (A B : Obj) : ((((w.alloc A).alloc B).alloc (.cells (List.replicate 32 (.int .u8 0)).toArray 83)).drew).heap[w.heap.size + 1 + 1]? = some (.cells (List.replicate 32 (Value.int .u8 0)).toArray 83 (0, 0)) := alloc3_at w A B _

theorem cut_hpos (wd : Nat) (ds : List Int) (w : World) (B C : Obj) (j : Nat) (v : Value) (h : ((ds.take wd).map (Value.int .u8))[j]? = some v) :
    ((((w.alloc (.cells (vD ds) 83)).alloc B).alloc C).drew).cell? ((⟨w.heap.size, 0, none⟩ : Addr).add j) = some v := by
  rw [Addr.add_mid, Nat.zero_add]
  show (((w.alloc (.cells (vD ds) 83)).alloc B).alloc C).cell? _ = _
  rw [cell_of_row _ w.heap.size j (vD ds) 83 (0, 0) (alloc3_0 w _ B C)]
  simp only [List.getElem?_map, Option.map_eq_some_iff] at h
  obtain ⟨x, hx, rfl⟩ := h
  rw [List.getElem?_take] at hx
  split at hx
  · simp [vD, hx]
  · cases hx

theorem cut_one (wd : Nat) (ds : List Int) : ∀ v ∈ (ds.take wd).map (Value.int .u8), v.oneCell' = true := by
  intro v hv
  obtain ⟨x, _, rfl⟩ := List.mem_map.1 hv
  rfl

theorem cut_splice (wd : Nat) (ds : List Int) (hl : ds.length = 32) (h2 : wd ≤ 32) :
    (splice (List.replicate 32 (Value.int .u8 0)) 0 ((ds.take wd).map (Value.int .u8))).toArray = vD (cutD wd ds) := by
  unfold splice vD cutD
  congr 1
  simp only [List.take_zero, List.nil_append, List.map_append, List.map_replicate, Nat.zero_add, List.length_map, List.length_take, hl, List.drop_replicate]
  rw [Nat.min_eq_left h2]

theorem cutD_size (wd : Nat) (ds : List Int) (hl : ds.length = 32) (h2 : wd ≤ 32) : (vD (cutD wd ds)).size = 32 := by
  simp [vD, cutD, hl]; omega
theorem info83 : (Try.prog.info? 83).map (·.size) = some 32 := by kernel_rfl
theorem vD_one (ds : List Int) : (vD ds).all (·.oneCell') = true := by
  unfold vD
  exact Array.all_eq_true_iff_forall_mem.2 (fun v hv => by
    obtain ⟨x, _, rfl⟩ := List.mem_map.1 (by simpa using hv : v ∈ ds.map (Value.int .u8))
    rfl)

theorem cut_c (wd : Nat) (ds : List Int) (w : World) (hl : ds.length = 32) (h1 : 1 ≤ wd) (h2 : wd ≤ 32) :
    Calls Try.prog 113 #[.int .i64 wd, .agg (vD ds)] w fun e w' => e = .returned (.tuple #[.agg (vD (cutD wd ds)), .int .i64 0]) ∧ Below w.heap.size w w' := by
  have hw : decide (1 ≤ (wd : Int) ∧ (wd : Int) ≤ 32) = true := decide_eq_true ⟨by omega, by omega⟩
  have HW := Lib.hid hw
  have HL := Lib.hid hl
  clear hw hl
  have h83 : Try.prog.arrayLen 83 = 32 := by kernel_rfl
  have hwi : (wd : Int) ≤ 32 := by omega
  have hw0 : 0 ≤ (wd : Int) := by omega
  have hz1 : Try.prog.elem 83 = 5 := by kernel_rfl
  go_enter Try.func113, Try.ntmps113
  go_wp2_with (go_at_call 115; refine (wide_c (wd : Int) _).mono ?_; rw [HW.out]; rintro e w1 ⟨rfl, rfl⟩)
  go_region_law (refine step_copy_splice rfl (.tmp 12) (.tmp 14) 118 118 rfl 5 Try.underlying118 (by kernel_rfl) (some ⟨w.heap.size + 1 + 1, 0, none⟩) (some ⟨w.heap.size, 0, none⟩) wd 32 wd 32 rfl rfl (w.heap.size + 1 + 1) 0 (List.replicate 32 (.int .u8 0)) 83 (cut_hg w _ _) ((ds.take wd).map (.int .u8)) ?hn (fun _ => ⟨rfl, _, rfl, fun j v h => cut_hpos wd ds w _ _ j v h⟩) ?hfit (cut_one wd ds) (w.heap.size + 1 + 1) _ ((Below.refl _ _)) (Nat.le_refl _) ?_; (case hn => have := HL.out; simp [Nat.min_def]; omega); (case hfit => have := HL.out; simp; omega); intro w1 hw1 hb1)
  have hg6 : w1.heap[w.heap.size + 1 + 1]? = some (.cells (vD (cutD wd ds)) 83 (0, 0)) := by rw [← cut_splice wd ds HL.out h2]; exact hw1.out
  have hg4 : w1.heap[w.heap.size + 1]? = some (.cells (List.replicate 32 (Value.int .u8 0)).toArray 83 (0, 0)) := (hb1.block _ (by omega)).trans (alloc3_1 w _ _ _)
  have hsz := cutD_size wd ds HL.out h2
  have hbw : Below w.heap.size w w1 := ((((Below.refl _ _).alloc (Nat.le_refl _) _).alloc (by simp) _).alloc (by simp; omega) _).drew.trans (hb1.mono (by omega))
  have HG6 := Lib.hid hg6
  have HG4 := Lib.hid hg4
  clear hg6 hg4 hw1 hb1
  go_wp2_with (first
    | (refine wpList_load_row rfl 83 (.tmp 6) rfl (w.heap.size + 1 + 1) rfl 83 (vD (cutD wd ds)) (0, 0) _ HG6.out Try.underlying83 rfl (by rw [hsz]; exact info83) ?_)
    | (refine wpList_store_row rfl 83 (.tmp 4) (.tmp 16) rfl (w.heap.size + 1) (vD (cutD wd ds)) rfl rfl 83 _ HG4.out (by rw [hsz]; exact info83) (by rw [hsz]; rfl) (vD_one _) ?_))
  exact bodyPost_ret (results_ct rfl _ _ (w.heap.size + 1) 83 (vD (cutD wd ds)) (0, 0) _ rfl (setRow_block _ _ _ _ _ _ HG4.out) Try.underlying83 rfl (by rw [hsz]; exact info83)) rfl ⟨rfl, below_setRow hbw (by omega) _⟩


theorem cut_fits (wd : Nat) (ds : List Int) (hl : ds.length = 32) (h2 : wd ≤ 32) : cutD wd ds = ds ↔ fitsB wd ds = true := by
  unfold fitsB
  rw [decide_eq_true_iff]
  constructor
  · intro h j hj hw
    have h1 : (cutD wd ds)[j]? = some ds[j] := by rw [h]; exact List.getElem?_eq_getElem hj
    unfold cutD at h1
    rw [List.getElem?_append_right (by simp; omega)] at h1
    rw [List.getElem?_replicate] at h1
    split at h1
    · simpa using h1.symm
    · cases h1
  · intro h
    apply List.ext_getElem?
    intro j
    unfold cutD
    rw [List.getElem?_append]
    simp only [List.length_take, hl, Nat.min_eq_left h2]
    split
    · rw [List.getElem?_take, if_pos (by assumption)]
    · rename_i hj
      rw [List.getElem?_replicate]
      by_cases hj2 : j < ds.length
      · rw [if_pos (by omega), List.getElem?_eq_getElem hj2, h j hj2 (by omega)]
      · rw [if_neg (by omega), List.getElem?_eq_none (by omega)]

theorem cutD_length (wd : Nat) (ds : List Int) (hl : ds.length = 32) (h2 : wd ≤ 32) : (cutD wd ds).length = 32 := by
  simp [cutD, hl]; omega

/-- A load of a digest, guarded or not. -/
theorem wpList_load83 {ops : Array Oper} {rest : List Oper} {o : Oper} {a : Act} {w : World} {Q : Exit → Act → World → Prop} (hw : Region.wanted o (yielded ops a.tmps) = true) (x : Operand) (ho : o.op = .load 83 x)
    (g : Nat) (hx : a.eval x = .pointer (some ⟨g, 0, none⟩)) (ds : List Int) (hl : ds.length = 32) (hg : w.heap[g]? = some (.cells (vD ds) 83 (0, 0)))
    (h : wpList Try.prog ops Q rest (a.put o.dst (.agg (vD ds))) w) : wpList Try.prog ops Q (o :: rest) a w :=
  BigFrame.wpList_want hw fun _ hK => wp_load_row 83 x ho g hx 83 (vD ds) (0, 0) _ hg Try.underlying83 rfl (by rw [vD_size _ hl]; exact info83) (hK _ _ h)

theorem fits_w2 {w w1 : World} {ds cs : List Int} (Z : Array Value) (hb : Below (w.alloc (.cells (vD ds) 83)).heap.size (w.alloc (.cells (vD ds) 83)) w1) :
    ∃ w2, ((w1.alloc (.cells Z 83)).setRow w1.heap.size (vD cs)) = w2 ∧
      (Hid (w2.heap[w1.heap.size]? = some (.cells (vD cs) 83 (0, 0))) ∧ Hid (w2.heap[w.heap.size]? = some (.cells (vD ds) 83 (0, 0)))) ∧ Below w.heap.size w w2 := by
  have hlt := hb.size
  simp only [World.size_alloc] at hlt
  have h5 := setRow_block _ _ (vD cs) _ _ _ (heap_alloc_new w1 (.cells Z 83))
  have h3 := (setRow_other (w1.alloc (.cells Z 83)) w1.heap.size w.heap.size (vD cs) (by omega)).trans ((Below.heap_alloc _ _ _ (by omega)).trans ((hb.block _ (by simp)).trans (heap_alloc_new w _)))
  exact ⟨_, rfl, ⟨h5, h3⟩, below_setRow ((below_a hb).alloc (by omega) _) (by omega) _⟩

theorem sumsFits_c (wd : Nat) (ds : List Int) (w : World) (hl : ds.length = 32) (h1 : 1 ≤ wd) (h2 : wd ≤ 32) :
    Calls Try.prog 99 #[.int .i64 wd, .agg (vD ds)] w fun e w' => e = .returned (.bool (fitsB wd ds)) ∧ Below w.heap.size w w' := by
  have heq := fun W => eql_vD (cutD wd ds) ds (cutD_length wd ds hl h2) hl W
  have hfin : decide (cutD wd ds = ds) = fitsB wd ds := by rw [Bool.eq_iff_iff, decide_eq_true_iff, cut_fits wd ds hl h2]
  have hsz : (vD (cutD wd ds)).size = 32 := vD_size _ (cutD_length wd ds hl h2)
  have HL := Lib.hid hl
  have HF := Lib.hid hfin
  have HS := Lib.hid hsz
  clear hl hfin hsz
  go_enter Try.func99, Try.ntmps99
  go_wp2_with (first
    | (refine wpList_load83 (o := ⟨some 9, _, _, _, _, _⟩) rfl (.tmp 3) rfl w.heap.size rfl ds HL.out (heap_alloc_new _ _) ?_)
    | (go_at_call 113; refine (cut_c wd ds _ HL.out h1 h2).mono ?_; rintro e w1 ⟨rfl, hb⟩)
    | (refine wpList_store_row rfl 83 (.tmp 5) (.tmp 11) rfl w1.heap.size (vD (cutD wd ds)) rfl rfl 83 _ (heap_alloc_new _ _) (by rw [HS.out]; exact info83) (by rw [HS.out]; rfl) (vD_one _) ?_
       obtain ⟨w2, hw2, ⟨h5, h3⟩, hb2⟩ := fits_w2 (w := w) (w1 := w1) (cs := cutD wd ds) _ hb
       rw [hw2]
       clear hw2 hb)
    | (refine wpList_load83 (o := ⟨some 16, _, _, _, _, _⟩) rfl (.tmp 5) rfl w1.heap.size rfl (cutD wd ds) (cutD_length wd ds HL.out h2) h5.out ?_)
    | (refine wpList_load83 (o := ⟨some 17, _, _, _, _, _⟩) rfl (.tmp 3) rfl w.heap.size rfl ds HL.out h3.out ?_))
  go_ret
  exact ⟨ret_eq (show Value.bool (decide (cutD wd ds = ds)) = _ by rw [HF.out]), hb2⟩

end Go.Proofs.Ytajkoeodabmgeaa
end

section
namespace Go.Proofs.Ytajkoeodabmgeaa
open Go.RowKit
set_option maxHeartbeats 400000
set_option maxRecDepth 100000
attribute [local go_sem] grow_cell grow_frozen grow_size

/-- A kid as a value. -/
def vK (k : KidD) : Array Value := k.cells.toArray
theorem vK_size (k : KidD) (h : k.sum.length = 32) : (vK k).size = 33 := by simp [vK, KidD.cells, h]
theorem info85 : (Try.prog.info? 85).map (·.size) = some 33 := by kernel_rfl
theorem vK_get (k : KidD) (j : Nat) : (vK k)[j + 1]? = (k.sum.map (Value.int .u8))[j]? := by simp [vK, KidD.cells]

theorem check3_c (k : KidD) (wd : Nat) (g : Nat) (w : World) (hl : k.sum.length = 32) (h1 : 1 ≤ wd) (h2 : wd ≤ 32)
    (hc1 : w.cell? ⟨g, 1, none⟩ = some (.int .i64 wd)) :
    Calls Try.prog 98 #[.agg (vK k), .pointer (some ⟨g, 0, none⟩)] w fun e w' => e = .returned (.bool (!fitsB wd k.sum)) ∧ Below w.heap.size w w' := by
  have hg : g < w.heap.size := World.block_lt_of_cell? w _ hc1
  have hg1 : g < w.heap.size + 1 := by omega
  have hr : (w.alloc (.cells (vK k) 85)).rangeAt w.heap.size 1 (k.sum.map (Value.int .u8)) := fun j v hv => by
    rw [cell_of_row _ w.heap.size (1 + j) _ _ _ (heap_alloc_new w _), Nat.add_comm, vK_get]; exact hv
  have HR := Lib.hid hr
  have HL := Lib.hid hl
  clear hr hl
  go_enter Try.func98, Try.ntmps98
  go_wp2_with (first
    | (refine wpList_load_mid rfl 83 (.tmp 6) rfl w.heap.size 1 rfl (k.sum.map (Value.int .u8)) _ HR.out Try.underlying83 rfl (by rw [List.length_map, HL.out]; exact info83) ?_)
    | (go_at_call 99; refine (sumsFits_c wd k.sum _ HL.out h1 h2).mono ?_; rintro e w1 ⟨rfl, hb⟩))
  go_ret
  exact ⟨rfl, below_a hb⟩

/-- The cells of one element of a row of rows of one length. -/
theorem flat_get {α : Type} (f : α → List Value) (sz : Nat) : ∀ (l : List α), (∀ x ∈ l, (f x).length = sz) → ∀ (i : Nat) (hi : i < l.length) (j : Nat), j < sz → (l.flatMap f)[i * sz + j]? = (f l[i])[j]?
  | [], _, i, hi, _, _ => by simp at hi
  | x :: l, hs, i, hi, j, hj => by
    have hx : (f x).length = sz := hs x (by simp)
    rw [List.flatMap_cons]
    cases i with
    | zero =>
      rw [Nat.zero_mul, Nat.zero_add, List.getElem?_append_left (by omega)]
      rfl
    | succ i =>
      rw [List.getElem?_append_right (by rw [hx, Nat.succ_mul]; omega), hx, show (i + 1) * sz + j - sz = i * sz + j by rw [Nat.succ_mul]; omega]
      simpa using flat_get f sz l (fun y hy => hs y (by simp [hy])) i (by simpa using hi) j hj

theorem pairs_at {w : World} {A : Option Addr} {l : List PairD} (h : Rd w 2 A l.length (pcells l)) {k : Nat} (hk : k < l.length) :
    ∃ b o, A = some ⟨b, o, none⟩ ∧ w.cell? ⟨b, o + k * 2, none⟩ = some (.string l[k].k) ∧ w.cell? ⟨b, o + k * 2 + 1, none⟩ = some (.string l[k].v) := by
  obtain ⟨b, o, e, hc⟩ := h.2 (by omega)
  have hp := flat_get PairD.cells 2 l (fun _ _ => rfl) k hk
  refine ⟨b, o, e, ?_, ?_⟩
  · exact hc (k * 2) _ (by have := hp 0 (by omega); simpa [pcells, PairD.cells] using this)
  · have := hc (k * 2 + 1) (.string l[k].v) (by have := hp 1 (by omega); simpa [pcells, PairD.cells] using this)
    simpa [Nat.add_assoc] using this

theorem seps_at {w : World} {A : Option Addr} {l : List ByteArray} (h : Rd w 1 A l.length (scells l)) {k : Nat} (hk : k < l.length) :
    ∃ b o, A = some ⟨b, o, none⟩ ∧ w.cell? ⟨b, o + k, none⟩ = some (.string l[k]) := by
  obtain ⟨b, o, e, hc⟩ := h.2 (by omega)
  exact ⟨b, o, e, hc k _ (by simp [scells, hk])⟩

theorem kids_at {w : World} {A : Option Addr} {l : List KidD} (h : Rd w 33 A l.length (kcells l)) (hs : ∀ k ∈ l, k.sum.length = 32) {k : Nat} (hk : k < l.length) :
    ∃ b o, A = some ⟨b, o, none⟩ ∧ w.rangeAt b (o + k * 33) l[k].cells := by
  obtain ⟨b, o, e, hc⟩ := h.2 (by omega)
  refine ⟨b, o, e, fun j v hv => ?_⟩
  have hj : j < 33 := by
    have := (List.getElem?_eq_some_iff.1 hv).1
    simpa [KidD.cells, hs l[k] (List.getElem_mem hk)] using this
  have hp := flat_get KidD.cells 33 l (fun x hx => by simp [KidD.cells, hs x hx]) k hk j hj
  have := hc (k * 33 + j) v (by rw [kcells, hp]; exact hv)
  simpa [Nat.add_assoc] using this

theorem indexP_c (A : Option Addr) (c : Nat) (l : List PairD) (pg wd : Int) (g : Nat) (w : World) (hR : Rd w 2 A l.length (pcells l)) (hl : l.length * 32 ≤ 140737488355328)
    (h0 : 0 ≤ pg) (h1 : pg ≤ 8192) (hv : ∀ p ∈ l, p.v.size ≤ 140737488355328) (hc0 : w.cell? ⟨g, 0, none⟩ = some (.int .i64 pg)) (hc1 : w.cell? ⟨g, 1, none⟩ = some (.int .i64 wd)) :
    Calls Try.prog 112 #[.slice A l.length c, .func (.func 94) #[] #[.pointer (some ⟨g, 0, none⟩)]] w fun e w' => (∃ r : Int, e = .returned (.int .i64 r) ∧ (0 ≤ r ↔ ∃ p ∈ l, pg / 8 < p.v.size)) ∧ Below w.heap.size w w' := by
  have hg : g < w.heap.size := World.block_lt_of_cell? w _ hc0
  go_enter Try.func112, Try.ntmps112
  go_wp2
  go_loopw [8] (fun i wr => ∃ k : Nat, k ≤ l.length ∧ i = .int .i64 k ∧ Hid (∀ j (h : j < k) (h' : j < l.length), (l[j].v.size : Int) ≤ pg / 8) ∧ Below w.heap.size w wr) (fun i _ => l.length - (intOf i).toNat)
  case atStart => exact ⟨0, Nat.zero_le _, rfl, fun j h => absurd h (by omega), Below.refl _ _⟩
  case round =>
    obtain ⟨k, hk, rfl, hno, hB⟩ := hrel
    have hR' := hR.below hB
    have hc0' := (hB.cell (p := ⟨g, 0, none⟩) hg).trans hc0
    have hc1' := (hB.cell (p := ⟨g, 1, none⟩) hg).trans hc1
    by_cases hlt : k < l.length
    · obtain ⟨ab, ao, rfl, hk0, hk1⟩ := pairs_at hR' hlt
      have hvk := hv _ (List.getElem_mem hlt)
      clear hR hc0 hc1
      by_cases hx : pg / 8 < l[k].v.size
      · have hx1 : decide (pg / 8 < (l[k].v.size : Int)) = true := decide_eq_true hx
        have HX := Lib.hid hx1
        clear hx1
        go_wp2_with (go_at_call 94; refine (check1_c _ _ pg wd g _ h0 h1 hvk hc0' hc1').mono ?_; rw [HX.out]; rintro e w1 ⟨rfl, hb⟩)
        go_ret
        exact ⟨⟨(k : Int), rfl, by constructor; (intro _; exact ⟨_, List.getElem_mem hlt, hx⟩); (intro _; omega)⟩, hB.trans (hb.mono hB.size)⟩
      · have hx1 : decide (pg / 8 < (l[k].v.size : Int)) = false := decide_eq_false hx
        have HX := Lib.hid hx1
        clear hx1
        go_wp2_with (go_at_call 94; refine (check1_c _ _ pg wd g _ h0 h1 hvk hc0' hc1').mono ?_; rw [HX.out]; rintro e w1 ⟨rfl, hb⟩)
        go_roundw
        case rel => exact ⟨k + 1, by omega, by go_num, fun j h h' => by
          by_cases e : j = k
          · subst e; omega
          · exact hno.out j (by omega) h', hB.trans (hb.mono hB.size)⟩
        case measure => simp [intOf]; omega
    · go_wp2
      go_ret
      exact ⟨⟨-1, rfl, by
        constructor
        · intro h; omega
        · rintro ⟨p, hm, hp⟩
          obtain ⟨j, hj, e⟩ := List.getElem_of_mem hm
          subst e
          have := hno.out j (by omega) hj; omega⟩, hB⟩

theorem containsP_c (A : Option Addr) (c : Nat) (l : List PairD) (pg wd : Int) (g : Nat) (w : World) (hR : Rd w 2 A l.length (pcells l)) (hl : l.length * 32 ≤ 140737488355328)
    (h0 : 0 ≤ pg) (h1 : pg ≤ 8192) (hv : ∀ p ∈ l, p.v.size ≤ 140737488355328) (hc0 : w.cell? ⟨g, 0, none⟩ = some (.int .i64 pg)) (hc1 : w.cell? ⟨g, 1, none⟩ = some (.int .i64 wd)) :
    Calls Try.prog 97 #[.slice A l.length c, .func (.func 94) #[] #[.pointer (some ⟨g, 0, none⟩)]] w fun e w' => e = .returned (.bool (decide (∃ p ∈ l, pg / 8 < p.v.size))) ∧ Below w.heap.size w w' := by
  have HV := Lib.hid hv
  clear hv
  go_enter Try.func97, Try.ntmps97
  go_wp2_with (go_at_call 112; refine (indexP_c A c l pg wd g w hR hl h0 h1 HV.out hc0 hc1).mono ?_; rintro e w' ⟨⟨r, rfl, hr⟩, hb⟩; have HR := Lib.hid hr; clear hr)
  go_ret
  exact ⟨ret_eq (show Value.bool (decide (0 ≤ r)) = _ by simp only [HR.out]), hb⟩

theorem indexK_c (A : Option Addr) (c : Nat) (l : List KidD) (wd : Nat) (g : Nat) (w : World) (hR : Rd w 33 A l.length (kcells l)) (hl : l.length * 36 ≤ 140737488355328)
    (h1 : 1 ≤ wd) (h2 : wd ≤ 32) (hs : ∀ k ∈ l, k.sum.length = 32) (hc1 : w.cell? ⟨g, 1, none⟩ = some (.int .i64 wd)) :
    Calls Try.prog 114 #[.slice A l.length c, .func (.func 98) #[] #[.pointer (some ⟨g, 0, none⟩)]] w fun e w' => (∃ r : Int, e = .returned (.int .i64 r) ∧ (0 ≤ r ↔ ∃ k ∈ l, fitsB wd k.sum = false)) ∧ Below w.heap.size w w' := by
  have hg : g < w.heap.size := World.block_lt_of_cell? w _ hc1
  have HS := Lib.hid hs
  clear hs
  go_enter Try.func114, Try.ntmps114
  go_wp2
  go_loopw [8] (fun i wr => ∃ k : Nat, k ≤ l.length ∧ i = .int .i64 k ∧ Hid (∀ j (h : j < k) (h' : j < l.length), fitsB wd l[j].sum = true) ∧ Below w.heap.size w wr) (fun i _ => l.length - (intOf i).toNat)
  case atStart => exact ⟨0, Nat.zero_le _, rfl, fun j h => absurd h (by omega), Below.refl _ _⟩
  case round =>
    obtain ⟨k, hk, rfl, hno, hB⟩ := hrel
    have hR' := hR.below hB
    have hc1' := (hB.cell (p := ⟨g, 1, none⟩) hg).trans hc1
    by_cases hlt : k < l.length
    · obtain ⟨ab, ao, rfl, hk0⟩ := kids_at hR' HS.out hlt
      have hsk := Lib.hid (HS.out _ (List.getElem_mem hlt))
      have HK := Lib.hid hk0
      have hcl : l[k].cells.length = 33 := by simp [KidD.cells, hsk.out]
      have HCL := Lib.hid hcl
      clear hk0 hR hc1 hcl
      cases hx : fitsB wd l[k].sum with
      | false =>
        have HX := Lib.hid hx
        clear hx
        go_wp2_with (first
          | (refine wpList_load_mid rfl 85 (.tmp 14) rfl ab (ao + k * 33) rfl l[k].cells _ HK.out Try.underlying85 rfl (by rw [HCL.out]; exact info85) ?_)
          | (go_at_call 98; refine (check3_c l[k] wd g _ hsk.out h1 h2 hc1').mono ?_; rw [HX.out]; rintro e w1 ⟨rfl, hb⟩))
        go_ret
        exact ⟨⟨(k : Int), rfl, by constructor; (intro _; exact ⟨_, List.getElem_mem hlt, HX.out⟩); (intro _; omega)⟩, hB.trans (hb.mono hB.size)⟩
      | true =>
        have HX := Lib.hid hx
        clear hx
        go_wp2_with (first
          | (refine wpList_load_mid rfl 85 (.tmp 14) rfl ab (ao + k * 33) rfl l[k].cells _ HK.out Try.underlying85 rfl (by rw [HCL.out]; exact info85) ?_)
          | (go_at_call 98; refine (check3_c l[k] wd g _ hsk.out h1 h2 hc1').mono ?_; rw [HX.out]; rintro e w1 ⟨rfl, hb⟩))
        go_roundw
        case rel => exact ⟨k + 1, by omega, by go_num, fun j h h' => by
          by_cases e : j = k
          · subst e; exact HX.out
          · exact hno.out j (by omega) h', hB.trans (hb.mono hB.size)⟩
        case measure => simp [intOf]; omega
    · go_wp2
      go_ret
      exact ⟨⟨-1, rfl, by
        constructor
        · intro h; omega
        · rintro ⟨p, hm, hp⟩
          obtain ⟨j, hj, e⟩ := List.getElem_of_mem hm
          subst e
          have := hno.out j (by omega) hj; rw [this] at hp; cases hp⟩, hB⟩

theorem containsK_c (A : Option Addr) (c : Nat) (l : List KidD) (wd : Nat) (g : Nat) (w : World) (hR : Rd w 33 A l.length (kcells l)) (hl : l.length * 36 ≤ 140737488355328)
    (h1 : 1 ≤ wd) (h2 : wd ≤ 32) (hs : ∀ k ∈ l, k.sum.length = 32) (hc1 : w.cell? ⟨g, 1, none⟩ = some (.int .i64 wd)) :
    Calls Try.prog 100 #[.slice A l.length c, .func (.func 98) #[] #[.pointer (some ⟨g, 0, none⟩)]] w fun e w' => e = .returned (.bool (decide (∃ k ∈ l, fitsB wd k.sum = false))) ∧ Below w.heap.size w w' := by
  have HS := Lib.hid hs
  clear hs
  go_enter Try.func100, Try.ntmps100
  go_wp2_with (go_at_call 114; refine (indexK_c A c l wd g w hR hl h1 h2 HS.out hc1).mono ?_; rintro e w' ⟨⟨r, rfl, hr⟩, hb⟩; have HR := Lib.hid hr; clear hr)
  go_ret
  exact ⟨ret_eq (show Value.bool (decide (0 ≤ r)) = _ by simp only [HR.out]), hb⟩

end Go.Proofs.Ytajkoeodabmgeaa
end

section
namespace Go.Proofs.Ytajkoeodabmgeaa
open Go.RowKit
set_option maxHeartbeats 2000000
set_option maxRecDepth 100000
attribute [local go_sem] grow_cell grow_frozen grow_size

abbrev bl (a b : ByteArray) : Bool := Op.bytesLess a.toList b.toList

/-- Is the key number i as it should be: 1 to mk bytes, above the one ahead? -/
def keyOk (mk : Int) (ks : List ByteArray) (i : Nat) (h : i < ks.length) : Prop :=
  (1 ≤ ks[i].size ∧ (ks[i].size : Int) ≤ mk) ∧ (0 < i → bl (ks[i - 1]'(by omega)) ks[i] = true)
instance (mk : Int) (ks : List ByteArray) (i : Nat) (h : i < ks.length) : Decidable (keyOk mk ks i h) := by unfold keyOk; infer_instance
def rises (mk : Int) (ks : List ByteArray) : Prop := ∀ i (h : i < ks.length), keyOk mk ks i h
instance (mk : Int) (ks : List ByteArray) : Decidable (rises mk ks) := by unfold rises; infer_instance
def risesB (mk : Int) (ks : List ByteArray) : Bool := decide (rises mk ks)

theorem risesP_c (A : Option Addr) (c : Nat) (l : List PairD) (pg wd : Int) (w : World) (hR : Rd w 2 A l.length (pcells l)) (hl : l.length * 32 ≤ 140737488355328)
    (h0 : 0 ≤ pg) (h1 : pg ≤ 8192) (hv : ∀ p ∈ l, p.k.size ≤ 140737488355328) :
    Calls Try.prog 95 #[vF pg wd, .slice A l.length c, .func (.func 96) #[] #[]] w fun e w' => e = .returned (.bool (risesB (pg / 16) (l.map (·.k)))) ∧ Below w.heap.size w w' := by
  have HV := Lib.hid hv
  clear hv
  have hR1 := hR.below ((Below.refl w.heap.size w).alloc (Nat.le_refl _) (.cells #[.int .i64 pg, .int .i64 wd] 24))
  go_enter Try.func95, Try.ntmps95
  go_wp2
  go_loopw [12] (fun i wr => ∃ k : Nat, k ≤ l.length ∧ i = .int .i64 k ∧ Hid (∀ j (h : j < (l.map (·.k)).length), j < k → keyOk (pg / 16) (l.map (·.k)) j h) ∧ Below (w.heap.size + 1) (w.alloc (.cells #[.int .i64 pg, .int .i64 wd] 24)) wr) (fun i _ => l.length - (intOf i).toNat)
  case atStart => exact ⟨0, Nat.zero_le _, rfl, fun j h h' => absurd h' (by omega), Below.refl _ _⟩
  case round =>
    obtain ⟨k, hk, rfl, hno, hB⟩ := hrel
    have hR' := hR1.below (hB.mono (by simp))
    have hcf0 : wr.cell? ⟨w.heap.size, 0, none⟩ = some (.int .i64 pg) := (hB.cell (p := ⟨w.heap.size, 0, none⟩) (by simp)).trans (cell_of_row _ _ _ _ _ _ (heap_alloc_new w _))
    have hcf1 : wr.cell? ⟨w.heap.size, 1, none⟩ = some (.int .i64 wd) := (hB.cell (p := ⟨w.heap.size, 1, none⟩) (by simp)).trans (cell_of_row _ _ _ _ _ _ (heap_alloc_new w _))
    have hBw : Below w.heap.size w wr := ((Below.refl _ _).alloc (Nat.le_refl _) _).trans (hB.mono (by omega))
    have hsz := hB.size
    simp only [World.size_alloc] at hsz
    clear hR hR1
    by_cases hlt : k < l.length
    · obtain ⟨ab, ao, rfl, hk0, hk1⟩ := pairs_at hR' hlt
      have habl : ab < wr.heap.size := World.block_lt_of_cell? _ _ hk0
      have habl1 : ab < wr.heap.size + 1 := by omega
      have habl3 : ab ≤ wr.heap.size := by omega
      have hsz1 : w.heap.size < wr.heap.size + 1 := by omega
      have hsz2 : w.heap.size < wr.heap.size := by omega
      have hsz3 : w.heap.size ≤ wr.heap.size := by omega
      have hvk := HV.out _ (List.getElem_mem hlt)
      have hBB := hB
      have hBz : Below w.heap.size w (w.alloc (.cells #[.int .i64 pg, .int .i64 wd] 24)) := (Below.refl _ _).alloc (Nat.le_refl _) _
      have hkm : k < (l.map (·.k)).length := by simpa using hlt
      clear hB hBw
      by_cases a1 : 1 ≤ l[k].k.size
      · by_cases a2 : (l[k].k.size : Int) ≤ pg / 16
        · rcases k with _ | k
          · simp only [Nat.zero_mul, Nat.add_zero] at hk0 hk1
            clear hR'
            go_wp2_with (first | (go_at_call 96; refine (check2_c _ _ _).mono ?_; rintro e w1 ⟨rfl, hb⟩; obtain ⟨hc, hf⟩ := bcell hb; have hBn := (by first | exact below_s0 hBB (by omega) hb | exact below_s1 hBB (by omega) hb : Below (w.heap.size + 1) (w.alloc (.cells #[.int .i64 pg, .int .i64 wd] 24)) w1); clear hBB; have hBB := hBn; clear hBn; have y1 : w.heap.size < w1.heap.size := (by have := hBB.size; simp only [World.size_alloc] at this; omega); have y2 : ab < w1.heap.size := (by have := hb.size; (try simp only [World.size_alloc] at this); omega)) | (go_at_call 63; refine (maxKey_c pg wd _ h0 h1).mono ?_; rintro e w1 ⟨rfl, hb⟩; obtain ⟨hc2, hf2⟩ := bcell hb; have hBn := below_s0 hBB (by omega) hb; clear hBB; have hBB := hBn; clear hBn; have y1 : w.heap.size < w1.heap.size := (by have := hBB.size; simp only [World.size_alloc] at this; omega); have y2 : ab < w1.heap.size := (by have := hb.size; omega)))
            go_roundw
            case rel => exact ⟨1, by omega, rfl, fun j h h' => by
              obtain rfl : j = 0 := by omega
              exact ⟨by simpa using ⟨a1, a2⟩, fun h => absurd h (by omega)⟩, hBB⟩
            case measure => simp [intOf]; omega
          · obtain ⟨ab', ao', he, hj0, hj1⟩ := pairs_at hR' (k := k) (by omega)
            cases he
            clear hR'
            cases a4 : bl l[k].k l[k + 1].k with
            | true =>
              go_wp2_with (first | (go_at_call 96; refine (check2_c _ _ _).mono ?_; rintro e w1 ⟨rfl, hb⟩; obtain ⟨hc, hf⟩ := bcell hb; have hBn := (by first | exact below_s0 hBB (by omega) hb | exact below_s1 hBB (by omega) hb : Below (w.heap.size + 1) (w.alloc (.cells #[.int .i64 pg, .int .i64 wd] 24)) w1); clear hBB; have hBB := hBn; clear hBn; have y1 : w.heap.size < w1.heap.size := (by have := hBB.size; simp only [World.size_alloc] at this; omega); have y2 : ab < w1.heap.size := (by have := hb.size; (try simp only [World.size_alloc] at this); omega)) | (go_at_call 63; refine (maxKey_c pg wd _ h0 h1).mono ?_; rintro e w1 ⟨rfl, hb⟩; obtain ⟨hc2, hf2⟩ := bcell hb; have hBn := below_s0 hBB (by omega) hb; clear hBB; have hBB := hBn; clear hBn; have y1 : w.heap.size < w1.heap.size := (by have := hBB.size; simp only [World.size_alloc] at this; omega); have y2 : ab < w1.heap.size := (by have := hb.size; omega)))
              go_roundw
              case rel => exact ⟨k + 1 + 1, by omega, by go_num, fun j h h' => by
                by_cases e : j = k + 1
                · subst e
                  exact ⟨by simpa using ⟨a1, a2⟩, fun _ => by simpa using a4⟩
                · exact hno.out j h (by omega), hBB⟩
              case measure => simp [intOf]; omega
            | false =>
              go_wp2_with (first | (go_at_call 96; refine (check2_c _ _ _).mono ?_; rintro e w1 ⟨rfl, hb⟩; obtain ⟨hc, hf⟩ := bcell hb; have hBn := (by first | exact below_s0 hBB (by omega) hb | exact below_s1 hBB (by omega) hb : Below (w.heap.size + 1) (w.alloc (.cells #[.int .i64 pg, .int .i64 wd] 24)) w1); clear hBB; have hBB := hBn; clear hBn; have y1 : w.heap.size < w1.heap.size := (by have := hBB.size; simp only [World.size_alloc] at this; omega); have y2 : ab < w1.heap.size := (by have := hb.size; (try simp only [World.size_alloc] at this); omega)) | (go_at_call 63; refine (maxKey_c pg wd _ h0 h1).mono ?_; rintro e w1 ⟨rfl, hb⟩; obtain ⟨hc2, hf2⟩ := bcell hb; have hBn := below_s0 hBB (by omega) hb; clear hBB; have hBB := hBn; clear hBn; have y1 : w.heap.size < w1.heap.size := (by have := hBB.size; simp only [World.size_alloc] at this; omega); have y2 : ab < w1.heap.size := (by have := hb.size; omega)))
              go_ret
              exact ⟨ret_eq (show Value.bool false = _ by rw [show risesB (pg / 16) (l.map (·.k)) = false from decide_eq_false (fun h => by have := (h (k + 1) hkm).2 (by omega); simp at this; rw [this] at a4; cases a4)]), hBz.trans (hBB.mono (by omega))⟩
        · go_wp2_with (first | (go_at_call 96; refine (check2_c _ _ _).mono ?_; rintro e w1 ⟨rfl, hb⟩; obtain ⟨hc, hf⟩ := bcell hb; have hBn := (by first | exact below_s0 hBB (by omega) hb | exact below_s1 hBB (by omega) hb : Below (w.heap.size + 1) (w.alloc (.cells #[.int .i64 pg, .int .i64 wd] 24)) w1); clear hBB; have hBB := hBn; clear hBn; have y1 : w.heap.size < w1.heap.size := (by have := hBB.size; simp only [World.size_alloc] at this; omega); have y2 : ab < w1.heap.size := (by have := hb.size; (try simp only [World.size_alloc] at this); omega)) | (go_at_call 63; refine (maxKey_c pg wd _ h0 h1).mono ?_; rintro e w1 ⟨rfl, hb⟩; obtain ⟨hc2, hf2⟩ := bcell hb; have hBn := below_s0 hBB (by omega) hb; clear hBB; have hBB := hBn; clear hBn; have y1 : w.heap.size < w1.heap.size := (by have := hBB.size; simp only [World.size_alloc] at this; omega); have y2 : ab < w1.heap.size := (by have := hb.size; omega)))
          go_ret
          exact ⟨ret_eq (show Value.bool false = _ by rw [show risesB (pg / 16) (l.map (·.k)) = false from decide_eq_false (fun h => by have := (h k hkm).1.2; simp at this; omega)]), hBz.trans (hBB.mono (by omega))⟩
      · go_wp2_with (first | (go_at_call 96; refine (check2_c _ _ _).mono ?_; rintro e w1 ⟨rfl, hb⟩; obtain ⟨hc, hf⟩ := bcell hb; have hBn := (by first | exact below_s0 hBB (by omega) hb | exact below_s1 hBB (by omega) hb : Below (w.heap.size + 1) (w.alloc (.cells #[.int .i64 pg, .int .i64 wd] 24)) w1); clear hBB; have hBB := hBn; clear hBn; have y1 : w.heap.size < w1.heap.size := (by have := hBB.size; simp only [World.size_alloc] at this; omega); have y2 : ab < w1.heap.size := (by have := hb.size; (try simp only [World.size_alloc] at this); omega)) | (go_at_call 63; refine (maxKey_c pg wd _ h0 h1).mono ?_; rintro e w1 ⟨rfl, hb⟩; obtain ⟨hc2, hf2⟩ := bcell hb; have hBn := below_s0 hBB (by omega) hb; clear hBB; have hBB := hBn; clear hBn; have y1 : w.heap.size < w1.heap.size := (by have := hBB.size; simp only [World.size_alloc] at this; omega); have y2 : ab < w1.heap.size := (by have := hb.size; omega)))
        go_ret
        exact ⟨ret_eq (show Value.bool false = _ by rw [show risesB (pg / 16) (l.map (·.k)) = false from decide_eq_false (fun h => by have := (h k hkm).1.1; simp at this; omega)]), hBz.trans (hBB.mono (by omega))⟩
    · go_wp2
      go_ret
      exact ⟨ret_eq (show Value.bool true = _ by rw [show risesB (pg / 16) (l.map (·.k)) = true from decide_eq_true (fun j h => hno.out j h (by simp at h; omega))]), hBw⟩

end Go.Proofs.Ytajkoeodabmgeaa
end

section
namespace Go.Proofs.Ytajkoeodabmgeaa
open Go.RowKit
set_option maxHeartbeats 2000000
set_option maxRecDepth 100000
attribute [local go_sem] grow_cell grow_frozen grow_size

theorem risesS_c (A : Option Addr) (c : Nat) (l : List ByteArray) (pg wd : Int) (w : World) (hR : Rd w 1 A l.length (scells l)) (hl : l.length * 16 ≤ 140737488355328)
    (h0 : 0 ≤ pg) (h1 : pg ≤ 8192) (hv : ∀ p ∈ l, p.size ≤ 140737488355328) :
    Calls Try.prog 101 #[vF pg wd, .slice A l.length c, .func (.func 102) #[] #[]] w fun e w' => e = .returned (.bool (risesB (pg / 16) l)) ∧ Below w.heap.size w w' := by
  have HV := Lib.hid hv
  clear hv
  have hR1 := hR.below ((Below.refl w.heap.size w).alloc (Nat.le_refl _) (.cells #[.int .i64 pg, .int .i64 wd] 24))
  go_enter Try.func101, Try.ntmps101
  go_wp2
  go_loopw [12] (fun i wr => ∃ k : Nat, k ≤ l.length ∧ i = .int .i64 k ∧ Hid (∀ j (h : j < l.length), j < k → keyOk (pg / 16) l j h) ∧ Below (w.heap.size + 1) (w.alloc (.cells #[.int .i64 pg, .int .i64 wd] 24)) wr) (fun i _ => l.length - (intOf i).toNat)
  case atStart => exact ⟨0, Nat.zero_le _, rfl, fun j h h' => absurd h' (by omega), Below.refl _ _⟩
  case round =>
    obtain ⟨k, hk, rfl, hno, hB⟩ := hrel
    have hR' := hR1.below (hB.mono (by simp))
    have hcf0 : wr.cell? ⟨w.heap.size, 0, none⟩ = some (.int .i64 pg) := (hB.cell (p := ⟨w.heap.size, 0, none⟩) (by simp)).trans (cell_of_row _ _ _ _ _ _ (heap_alloc_new w _))
    have hcf1 : wr.cell? ⟨w.heap.size, 1, none⟩ = some (.int .i64 wd) := (hB.cell (p := ⟨w.heap.size, 1, none⟩) (by simp)).trans (cell_of_row _ _ _ _ _ _ (heap_alloc_new w _))
    have hBw : Below w.heap.size w wr := ((Below.refl _ _).alloc (Nat.le_refl _) _).trans (hB.mono (by omega))
    have hsz := hB.size
    simp only [World.size_alloc] at hsz
    clear hR hR1
    by_cases hlt : k < l.length
    · obtain ⟨ab, ao, rfl, hk0⟩ := seps_at hR' hlt
      have habl : ab < wr.heap.size := World.block_lt_of_cell? _ _ hk0
      have habl1 : ab < wr.heap.size + 1 := by omega
      have habl3 : ab ≤ wr.heap.size := by omega
      have hsz1 : w.heap.size < wr.heap.size + 1 := by omega
      have hsz2 : w.heap.size < wr.heap.size := by omega
      have hsz3 : w.heap.size ≤ wr.heap.size := by omega
      have hvk := HV.out _ (List.getElem_mem hlt)
      have hBB := hB
      have hBz : Below w.heap.size w (w.alloc (.cells #[.int .i64 pg, .int .i64 wd] 24)) := (Below.refl _ _).alloc (Nat.le_refl _) _
      have hkm := hlt
      clear hB hBw
      by_cases a1 : 1 ≤ l[k].size
      · by_cases a2 : (l[k].size : Int) ≤ pg / 16
        · rcases k with _ | k
          · simp only [Nat.add_zero] at hk0
            clear hR'
            go_wp2_with (first | (go_at_call 102; refine (check4_c _ _).mono ?_; rintro e w1 ⟨rfl, hb⟩; obtain ⟨hc, hf⟩ := bcell hb; have hBn := (by first | exact below_s0 hBB (by omega) hb | exact below_s1 hBB (by omega) hb : Below (w.heap.size + 1) (w.alloc (.cells #[.int .i64 pg, .int .i64 wd] 24)) w1); clear hBB; have hBB := hBn; clear hBn; have y1 : w.heap.size < w1.heap.size := (by have := hBB.size; simp only [World.size_alloc] at this; omega); have y2 : ab < w1.heap.size := (by have := hb.size; (try simp only [World.size_alloc] at this); omega)) | (go_at_call 63; refine (maxKey_c pg wd _ h0 h1).mono ?_; rintro e w1 ⟨rfl, hb⟩; obtain ⟨hc2, hf2⟩ := bcell hb; have hBn := below_s0 hBB (by omega) hb; clear hBB; have hBB := hBn; clear hBn; have y1 : w.heap.size < w1.heap.size := (by have := hBB.size; simp only [World.size_alloc] at this; omega); have y2 : ab < w1.heap.size := (by have := hb.size; omega)))
            go_roundw
            case rel => exact ⟨1, by omega, rfl, fun j h h' => by
              obtain rfl : j = 0 := by omega
              exact ⟨⟨a1, a2⟩, fun h => absurd h (by omega)⟩, hBB⟩
            case measure => simp [intOf]; omega
          · obtain ⟨ab', ao', he, hj0⟩ := seps_at hR' (k := k) (by omega)
            cases he
            clear hR'
            cases a4 : bl l[k] l[k + 1] with
            | true =>
              go_wp2_with (first | (go_at_call 102; refine (check4_c _ _).mono ?_; rintro e w1 ⟨rfl, hb⟩; obtain ⟨hc, hf⟩ := bcell hb; have hBn := (by first | exact below_s0 hBB (by omega) hb | exact below_s1 hBB (by omega) hb : Below (w.heap.size + 1) (w.alloc (.cells #[.int .i64 pg, .int .i64 wd] 24)) w1); clear hBB; have hBB := hBn; clear hBn; have y1 : w.heap.size < w1.heap.size := (by have := hBB.size; simp only [World.size_alloc] at this; omega); have y2 : ab < w1.heap.size := (by have := hb.size; (try simp only [World.size_alloc] at this); omega)) | (go_at_call 63; refine (maxKey_c pg wd _ h0 h1).mono ?_; rintro e w1 ⟨rfl, hb⟩; obtain ⟨hc2, hf2⟩ := bcell hb; have hBn := below_s0 hBB (by omega) hb; clear hBB; have hBB := hBn; clear hBn; have y1 : w.heap.size < w1.heap.size := (by have := hBB.size; simp only [World.size_alloc] at this; omega); have y2 : ab < w1.heap.size := (by have := hb.size; omega)))
              go_roundw
              case rel => exact ⟨k + 1 + 1, by omega, by go_num, fun j h h' => by
                by_cases e : j = k + 1
                · subst e
                  exact ⟨⟨a1, a2⟩, fun _ => a4⟩
                · exact hno.out j h (by omega), hBB⟩
              case measure => simp [intOf]; omega
            | false =>
              go_wp2_with (first | (go_at_call 102; refine (check4_c _ _).mono ?_; rintro e w1 ⟨rfl, hb⟩; obtain ⟨hc, hf⟩ := bcell hb; have hBn := (by first | exact below_s0 hBB (by omega) hb | exact below_s1 hBB (by omega) hb : Below (w.heap.size + 1) (w.alloc (.cells #[.int .i64 pg, .int .i64 wd] 24)) w1); clear hBB; have hBB := hBn; clear hBn; have y1 : w.heap.size < w1.heap.size := (by have := hBB.size; simp only [World.size_alloc] at this; omega); have y2 : ab < w1.heap.size := (by have := hb.size; (try simp only [World.size_alloc] at this); omega)) | (go_at_call 63; refine (maxKey_c pg wd _ h0 h1).mono ?_; rintro e w1 ⟨rfl, hb⟩; obtain ⟨hc2, hf2⟩ := bcell hb; have hBn := below_s0 hBB (by omega) hb; clear hBB; have hBB := hBn; clear hBn; have y1 : w.heap.size < w1.heap.size := (by have := hBB.size; simp only [World.size_alloc] at this; omega); have y2 : ab < w1.heap.size := (by have := hb.size; omega)))
              go_ret
              exact ⟨ret_eq (show Value.bool false = _ by rw [show risesB (pg / 16) l = false from decide_eq_false (fun h => by have := (h (k + 1) hkm).2 (by omega); rw [show l[k + 1 - 1] = l[k] from rfl, a4] at this; cases this)]), hBz.trans (hBB.mono (by omega))⟩
        · go_wp2_with (first | (go_at_call 102; refine (check4_c _ _).mono ?_; rintro e w1 ⟨rfl, hb⟩; obtain ⟨hc, hf⟩ := bcell hb; have hBn := (by first | exact below_s0 hBB (by omega) hb | exact below_s1 hBB (by omega) hb : Below (w.heap.size + 1) (w.alloc (.cells #[.int .i64 pg, .int .i64 wd] 24)) w1); clear hBB; have hBB := hBn; clear hBn; have y1 : w.heap.size < w1.heap.size := (by have := hBB.size; simp only [World.size_alloc] at this; omega); have y2 : ab < w1.heap.size := (by have := hb.size; (try simp only [World.size_alloc] at this); omega)) | (go_at_call 63; refine (maxKey_c pg wd _ h0 h1).mono ?_; rintro e w1 ⟨rfl, hb⟩; obtain ⟨hc2, hf2⟩ := bcell hb; have hBn := below_s0 hBB (by omega) hb; clear hBB; have hBB := hBn; clear hBn; have y1 : w.heap.size < w1.heap.size := (by have := hBB.size; simp only [World.size_alloc] at this; omega); have y2 : ab < w1.heap.size := (by have := hb.size; omega)))
          go_ret
          exact ⟨ret_eq (show Value.bool false = _ by rw [show risesB (pg / 16) l = false from decide_eq_false (fun h => by have := (h k hkm).1.2; omega)]), hBz.trans (hBB.mono (by omega))⟩
      · go_wp2_with (first | (go_at_call 102; refine (check4_c _ _).mono ?_; rintro e w1 ⟨rfl, hb⟩; obtain ⟨hc, hf⟩ := bcell hb; have hBn := (by first | exact below_s0 hBB (by omega) hb | exact below_s1 hBB (by omega) hb : Below (w.heap.size + 1) (w.alloc (.cells #[.int .i64 pg, .int .i64 wd] 24)) w1); clear hBB; have hBB := hBn; clear hBn; have y1 : w.heap.size < w1.heap.size := (by have := hBB.size; simp only [World.size_alloc] at this; omega); have y2 : ab < w1.heap.size := (by have := hb.size; (try simp only [World.size_alloc] at this); omega)) | (go_at_call 63; refine (maxKey_c pg wd _ h0 h1).mono ?_; rintro e w1 ⟨rfl, hb⟩; obtain ⟨hc2, hf2⟩ := bcell hb; have hBn := below_s0 hBB (by omega) hb; clear hBB; have hBB := hBn; clear hBn; have y1 : w.heap.size < w1.heap.size := (by have := hBB.size; simp only [World.size_alloc] at this; omega); have y2 : ab < w1.heap.size := (by have := hb.size; omega)))
        go_ret
        exact ⟨ret_eq (show Value.bool false = _ by rw [show risesB (pg / 16) l = false from decide_eq_false (fun h => by have := (h k hkm).1.1; omega)]), hBz.trans (hBB.mono (by omega))⟩
    · go_wp2
      go_ret
      exact ⟨ret_eq (show Value.bool true = _ by rw [show risesB (pg / 16) l = true from decide_eq_true (fun j h => hno.out j h (by omega))]), hBw⟩

end Go.Proofs.Ytajkoeodabmgeaa
end
