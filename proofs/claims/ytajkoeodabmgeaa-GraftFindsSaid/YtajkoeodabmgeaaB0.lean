import Derived.Test.YtajkoeodabmgeaaProg
import Derived.WalkKit
import Derived.WalkSpells
import Derived.WalkLawsBesides
import Derived.BigQuiet
import Derived.Deep.QuietTactic
import Derived.Lib.Hide
import Derived.Deep.DeepFit
import Derived.Deep.DeepMust
namespace Go.Proofs.Ytajkoeodabmgeaa
open Go.RowKit

/-- What a slice reads as: n elements of `size` cells each. -/
def Rd (w : World) (size : Nat) (A : Option Addr) (n : Nat) (xs : List Value) : Prop :=
  xs.length = n * size ∧ (0 < n → ∃ b o, A = some ⟨b, o, none⟩ ∧ ∀ j u, xs[j]? = some u → w.cell? ⟨b, o + j, none⟩ = some u)

structure PairD where
  k : ByteArray
  v : ByteArray

structure KidD where
  page : Int
  sum : List Int

structure NodeD where
  pairs : List PairD
  seps : List ByteArray
  kids : List KidD

def PairD.cells (p : PairD) : List Value := [.string p.k, .string p.v]
def KidD.cells (k : KidD) : List Value := .int .u32 k.page :: k.sum.map (.int .u8)
def pcells (l : List PairD) : List Value := l.flatMap PairD.cells
def scells (l : List ByteArray) : List Value := l.map .string
def kcells (l : List KidD) : List Value := l.flatMap KidD.cells

theorem add_block (a : Addr) (n : Nat) : (a.add n).block = a.block := by unfold Addr.add; split <;> rfl
theorem add_add (a : Addr) (i j : Nat) : (a.add i).add j = a.add (i + j) := by
  unfold Addr.add
  by_cases hi : i = 0 <;> by_cases hj : j = 0 <;> simp [hi, hj, Nat.add_assoc]

theorem Rd.below {w w' : World} {size n : Nat} {A : Option Addr} {xs : List Value} (h : Rd w size A n xs) (hb : Below w.heap.size w w') : Rd w' size A n xs :=
  ⟨h.1, fun hn => by
    obtain ⟨b, o, e, hc⟩ := h.2 hn
    exact ⟨b, o, e, fun j u hu => by
      have h1 := hc j u hu
      have h2 := World.block_lt_of_cell? w _ h1
      exact (hb.cell (p := ⟨b, o + j, none⟩) h2).trans h1⟩⟩

/-- The frame as a value; a pair; a node. -/
abbrev vF (pg wd : Int) : Value := .agg #[.int .i64 pg, .int .i64 wd]

structure RdN (w : World) (A0 : Option Addr) (c0 : Nat) (A1 : Option Addr) (c1 : Nat) (A2 : Option Addr) (c2 : Nat) (nd : NodeD) : Prop where
  pairs : Rd w 2 A0 nd.pairs.length (pcells nd.pairs)
  seps : Rd w 1 A1 nd.seps.length (scells nd.seps)
  kids : Rd w 33 A2 nd.kids.length (kcells nd.kids)
  hp : nd.pairs.length * 32 ≤ 140737488355328
  hs : nd.seps.length * 16 ≤ 140737488355328
  hk : nd.kids.length * 36 ≤ 140737488355328
  hcp : nd.pairs.length ≤ c0
  hcs : nd.seps.length ≤ c1
  hck : nd.kids.length ≤ c2
  pk : ∀ p ∈ nd.pairs, p.k.size ≤ 140737488355328 ∧ p.v.size ≤ 140737488355328
  sk : ∀ s ∈ nd.seps, s.size ≤ 140737488355328
  kk : ∀ k ∈ nd.kids, k.sum.length = 32

end Go.Proofs.Ytajkoeodabmgeaa
