/-
  No cell of these rows narrows 'for every input' (looked for: loops, veiled, ifaces, maps, wideKeys, modest, calm, conditions, laid).
  DERIVED. THE GIVEN ROWS OF THIS SEAT. 17 by the template 'for every input the law returns true; each argument reads behind the call as it read before'; 0 by the template 'total and deterministic' (their statements: YtajkoeodabmgeaaTotals.lean).
  GIVEN WITH THE SEED: the statements are not yours to turn. If you find one false, say at which input.
  Laid BY PROGRAM, IN A SANDBOX (cutbox-rows.mjs): the forced cells as the released guide's own fill.sh prints them over the translation f359f9c3695f146c… (all of the seat's roots in one cut). By AI agents, Wed Nov 11 2026. No macro, syntax, notation, axiom, sorry.
-/
import Derived.Test.YtajkoeodabmgeaaChecked
import GoSem.Claim
import GoSem.ClaimJoined
import GoSem.ClaimMapViews
import Derived.JoinedTies
import Derived.KernelRfl
namespace Go.Proofs.Ytajkoeodabmgeaa
/- THE CELL 'sum', in the pinned program and in every row, IS THE sha256 OF THE DUMP (.gsa) THAT YtajkoeodabmgeaaProg.lean LOADS. Nothing in Lean hashes anything: it is a label: what it is worth is what the hold of that sum in a sandbox is worth. -/
noncomputable def Try.pinned : Pinned := { name := "ytajkoeodabmgeaa", sum := "f359f9c3695f146c0a7cf1aef4834075b04f10954892de299be1cc5ac5a5795b", checked := Try.checked }
namespace Rows
def none {H : Type} : Left H := { results := [], args := [] }

/-- 'heartwoodlaw08.GraftNames': WHATEVER THE INPUT: true; the input reads as it did. -/
def graftNamesSpec : ChangeSpec := { name := "graftNames", fn := fun _ => fun
  | [] => { results := [.lit (.bool true)], args := [] }
  | _ => none }
def graftNamesRow : OpenClaim := { program := "ytajkoeodabmgeaa", sum := "f359f9c3695f146c0a7cf1aef4834075b04f10954892de299be1cc5ac5a5795b", func := "heartwood/heartwoodlaw08.GraftNames", spec := "graftNames", unfollowed := true, recurses := true, apart := false }
def GraftNamesSaid : Prop := graftNamesRow.holds Try.pinned (OpenSpec.ofChange graftNamesSpec)

/-- ITS FALSE NEIGHBOUR: 'it returns false'. Refute it at one input. -/
def graftNamesWrong : ChangeSpec := { name := "graftNames", fn := fun _ => fun
  | [] => { results := [.lit (.bool false)], args := [] }
  | _ => none }
def GraftNamesWrongFalsely : Prop := graftNamesRow.holds Try.pinned (OpenSpec.ofChange graftNamesWrong)

/-- 'heartwoodlaw08.GraftPuts': WHATEVER THE INPUT: true; the input reads as it did. -/
def graftPutsSpec : ChangeSpec := { name := "graftPuts", fn := fun _ => fun
  | [d1, d2, d3] => { results := [.lit (.bool true)], args := [d1, d2, d3] }
  | _ => none }
def graftPutsRow : OpenClaim := { program := "ytajkoeodabmgeaa", sum := "f359f9c3695f146c0a7cf1aef4834075b04f10954892de299be1cc5ac5a5795b", func := "heartwood/heartwoodlaw08.GraftPuts", spec := "graftPuts", unfollowed := true, recurses := true, apart := false }
def GraftPutsSaid : Prop := graftPutsRow.holds Try.pinned (OpenSpec.ofChange graftPutsSpec)

/-- ITS FALSE NEIGHBOUR: 'it returns false'. Refute it at one input. -/
def graftPutsWrong : ChangeSpec := { name := "graftPuts", fn := fun _ => fun
  | [d1, d2, d3] => { results := [.lit (.bool false)], args := [d1, d2, d3] }
  | _ => none }
def GraftPutsWrongFalsely : Prop := graftPutsRow.holds Try.pinned (OpenSpec.ofChange graftPutsWrong)

/-- 'heartwoodlaw08.GraftBetween': WHATEVER THE INPUT: true; the input reads as it did. -/
def graftBetweenSpec : ChangeSpec := { name := "graftBetween", fn := fun _ => fun
  | [d1, d2] => { results := [.lit (.bool true)], args := [d1, d2] }
  | _ => none }
def graftBetweenRow : OpenClaim := { program := "ytajkoeodabmgeaa", sum := "f359f9c3695f146c0a7cf1aef4834075b04f10954892de299be1cc5ac5a5795b", func := "heartwood/heartwoodlaw08.GraftBetween", spec := "graftBetween", unfollowed := true, recurses := true, apart := false }
def GraftBetweenSaid : Prop := graftBetweenRow.holds Try.pinned (OpenSpec.ofChange graftBetweenSpec)

/-- ITS FALSE NEIGHBOUR: 'it returns false'. Refute it at one input. -/
def graftBetweenWrong : ChangeSpec := { name := "graftBetween", fn := fun _ => fun
  | [d1, d2] => { results := [.lit (.bool false)], args := [d1, d2] }
  | _ => none }
def GraftBetweenWrongFalsely : Prop := graftBetweenRow.holds Try.pinned (OpenSpec.ofChange graftBetweenWrong)

/-- 'heartwoodlaw08.GraftCuts': WHATEVER THE INPUT: true; the input reads as it did. -/
def graftCutsSpec : ChangeSpec := { name := "graftCuts", fn := fun _ => fun
  | [d1, d2, d3] => { results := [.lit (.bool true)], args := [d1, d2, d3] }
  | _ => none }
def graftCutsRow : OpenClaim := { program := "ytajkoeodabmgeaa", sum := "f359f9c3695f146c0a7cf1aef4834075b04f10954892de299be1cc5ac5a5795b", func := "heartwood/heartwoodlaw08.GraftCuts", spec := "graftCuts", unfollowed := true, recurses := true, apart := false }
def GraftCutsSaid : Prop := graftCutsRow.holds Try.pinned (OpenSpec.ofChange graftCutsSpec)

/-- ITS FALSE NEIGHBOUR: 'it returns false'. Refute it at one input. -/
def graftCutsWrong : ChangeSpec := { name := "graftCuts", fn := fun _ => fun
  | [d1, d2, d3] => { results := [.lit (.bool false)], args := [d1, d2, d3] }
  | _ => none }
def GraftCutsWrongFalsely : Prop := graftCutsRow.holds Try.pinned (OpenSpec.ofChange graftCutsWrong)

/-- 'heartwoodlaw08.GraftSplits': WHATEVER THE INPUT: true; the input reads as it did. -/
def graftSplitsSpec : ChangeSpec := { name := "graftSplits", fn := fun _ => fun
  | [d1, d2] => { results := [.lit (.bool true)], args := [d1, d2] }
  | _ => none }
def graftSplitsRow : OpenClaim := { program := "ytajkoeodabmgeaa", sum := "f359f9c3695f146c0a7cf1aef4834075b04f10954892de299be1cc5ac5a5795b", func := "heartwood/heartwoodlaw08.GraftSplits", spec := "graftSplits", unfollowed := true, recurses := true, apart := false }
def GraftSplitsSaid : Prop := graftSplitsRow.holds Try.pinned (OpenSpec.ofChange graftSplitsSpec)

/-- ITS FALSE NEIGHBOUR: 'it returns false'. Refute it at one input. -/
def graftSplitsWrong : ChangeSpec := { name := "graftSplits", fn := fun _ => fun
  | [d1, d2] => { results := [.lit (.bool false)], args := [d1, d2] }
  | _ => none }
def GraftSplitsWrongFalsely : Prop := graftSplitsRow.holds Try.pinned (OpenSpec.ofChange graftSplitsWrong)

/-- 'heartwoodlaw08.GraftSeparates': WHATEVER THE INPUT: true; the input reads as it did. -/
def graftSeparatesSpec : ChangeSpec := { name := "graftSeparates", fn := fun _ => fun
  | [d1, d2] => { results := [.lit (.bool true)], args := [d1, d2] }
  | _ => none }
def graftSeparatesRow : OpenClaim := { program := "ytajkoeodabmgeaa", sum := "f359f9c3695f146c0a7cf1aef4834075b04f10954892de299be1cc5ac5a5795b", func := "heartwood/heartwoodlaw08.GraftSeparates", spec := "graftSeparates", unfollowed := true, recurses := true, apart := false }
def GraftSeparatesSaid : Prop := graftSeparatesRow.holds Try.pinned (OpenSpec.ofChange graftSeparatesSpec)

/-- ITS FALSE NEIGHBOUR: 'it returns false'. Refute it at one input. -/
def graftSeparatesWrong : ChangeSpec := { name := "graftSeparates", fn := fun _ => fun
  | [d1, d2] => { results := [.lit (.bool false)], args := [d1, d2] }
  | _ => none }
def GraftSeparatesWrongFalsely : Prop := graftSeparatesRow.holds Try.pinned (OpenSpec.ofChange graftSeparatesWrong)

/-- 'heartwoodlaw08.GraftFull': WHATEVER THE INPUT: true; the input reads as it did. -/
def graftFullSpec : ChangeSpec := { name := "graftFull", fn := fun _ => fun
  | [d1, d2] => { results := [.lit (.bool true)], args := [d1, d2] }
  | _ => none }
def graftFullRow : OpenClaim := { program := "ytajkoeodabmgeaa", sum := "f359f9c3695f146c0a7cf1aef4834075b04f10954892de299be1cc5ac5a5795b", func := "heartwood/heartwoodlaw08.GraftFull", spec := "graftFull", unfollowed := true, recurses := true, apart := false }
def GraftFullSaid : Prop := graftFullRow.holds Try.pinned (OpenSpec.ofChange graftFullSpec)

/-- ITS FALSE NEIGHBOUR: 'it returns false'. Refute it at one input. -/
def graftFullWrong : ChangeSpec := { name := "graftFull", fn := fun _ => fun
  | [d1, d2] => { results := [.lit (.bool false)], args := [d1, d2] }
  | _ => none }
def GraftFullWrongFalsely : Prop := graftFullRow.holds Try.pinned (OpenSpec.ofChange graftFullWrong)

/-- 'heartwoodlaw08.GraftHalves': WHATEVER THE INPUT: true; the input reads as it did. -/
def graftHalvesSpec : ChangeSpec := { name := "graftHalves", fn := fun _ => fun
  | [d1, d2] => { results := [.lit (.bool true)], args := [d1, d2] }
  | _ => none }
def graftHalvesRow : OpenClaim := { program := "ytajkoeodabmgeaa", sum := "f359f9c3695f146c0a7cf1aef4834075b04f10954892de299be1cc5ac5a5795b", func := "heartwood/heartwoodlaw08.GraftHalves", spec := "graftHalves", unfollowed := true, recurses := true, apart := false }
def GraftHalvesSaid : Prop := graftHalvesRow.holds Try.pinned (OpenSpec.ofChange graftHalvesSpec)

/-- ITS FALSE NEIGHBOUR: 'it returns false'. Refute it at one input. -/
def graftHalvesWrong : ChangeSpec := { name := "graftHalves", fn := fun _ => fun
  | [d1, d2] => { results := [.lit (.bool false)], args := [d1, d2] }
  | _ => none }
def GraftHalvesWrongFalsely : Prop := graftHalvesRow.holds Try.pinned (OpenSpec.ofChange graftHalvesWrong)

/-- 'heartwoodlaw08.GraftFinds': WHATEVER THE INPUT: true; the input reads as it did. -/
def graftFindsSpec : ChangeSpec := { name := "graftFinds", fn := fun _ => fun
  | [d1, d2] => { results := [.lit (.bool true)], args := [d1, d2] }
  | _ => none }
def graftFindsRow : OpenClaim := { program := "ytajkoeodabmgeaa", sum := "f359f9c3695f146c0a7cf1aef4834075b04f10954892de299be1cc5ac5a5795b", func := "heartwood/heartwoodlaw08.GraftFinds", spec := "graftFinds", unfollowed := true, recurses := true, apart := false }
def GraftFindsSaid : Prop := graftFindsRow.holds Try.pinned (OpenSpec.ofChange graftFindsSpec)

/-- ITS FALSE NEIGHBOUR: 'it returns false'. Refute it at one input. -/
def graftFindsWrong : ChangeSpec := { name := "graftFinds", fn := fun _ => fun
  | [d1, d2] => { results := [.lit (.bool false)], args := [d1, d2] }
  | _ => none }
def GraftFindsWrongFalsely : Prop := graftFindsRow.holds Try.pinned (OpenSpec.ofChange graftFindsWrong)

/-- 'heartwoodlaw08.GraftWays': WHATEVER THE INPUT: true; the input reads as it did. -/
def graftWaysSpec : ChangeSpec := { name := "graftWays", fn := fun _ => fun
  | [d1, d2, d3] => { results := [.lit (.bool true)], args := [d1, d2, d3] }
  | _ => none }
def graftWaysRow : OpenClaim := { program := "ytajkoeodabmgeaa", sum := "f359f9c3695f146c0a7cf1aef4834075b04f10954892de299be1cc5ac5a5795b", func := "heartwood/heartwoodlaw08.GraftWays", spec := "graftWays", unfollowed := true, recurses := true, apart := false }
def GraftWaysSaid : Prop := graftWaysRow.holds Try.pinned (OpenSpec.ofChange graftWaysSpec)

/-- ITS FALSE NEIGHBOUR: 'it returns false'. Refute it at one input. -/
def graftWaysWrong : ChangeSpec := { name := "graftWays", fn := fun _ => fun
  | [d1, d2, d3] => { results := [.lit (.bool false)], args := [d1, d2, d3] }
  | _ => none }
def GraftWaysWrongFalsely : Prop := graftWaysRow.holds Try.pinned (OpenSpec.ofChange graftWaysWrong)

/-- 'heartwoodlaw08.GraftSplices': WHATEVER THE INPUT: true; the input reads as it did. -/
def graftSplicesSpec : ChangeSpec := { name := "graftSplices", fn := fun _ => fun
  | [d] => { results := [.lit (.bool true)], args := [d] }
  | _ => none }
def graftSplicesRow : OpenClaim := { program := "ytajkoeodabmgeaa", sum := "f359f9c3695f146c0a7cf1aef4834075b04f10954892de299be1cc5ac5a5795b", func := "heartwood/heartwoodlaw08.GraftSplices", spec := "graftSplices", unfollowed := true, recurses := true, apart := false }
def GraftSplicesSaid : Prop := graftSplicesRow.holds Try.pinned (OpenSpec.ofChange graftSplicesSpec)

/-- ITS FALSE NEIGHBOUR: 'it returns false'. Refute it at one input. -/
def graftSplicesWrong : ChangeSpec := { name := "graftSplices", fn := fun _ => fun
  | [d] => { results := [.lit (.bool false)], args := [d] }
  | _ => none }
def GraftSplicesWrongFalsely : Prop := graftSplicesRow.holds Try.pinned (OpenSpec.ofChange graftSplicesWrong)

/-- 'heartwoodlaw08.GraftRemoves': WHATEVER THE INPUT: true; the input reads as it did. -/
def graftRemovesSpec : ChangeSpec := { name := "graftRemoves", fn := fun _ => fun
  | [d1, d2, d3] => { results := [.lit (.bool true)], args := [d1, d2, d3] }
  | _ => none }
def graftRemovesRow : OpenClaim := { program := "ytajkoeodabmgeaa", sum := "f359f9c3695f146c0a7cf1aef4834075b04f10954892de299be1cc5ac5a5795b", func := "heartwood/heartwoodlaw08.GraftRemoves", spec := "graftRemoves", unfollowed := true, recurses := true, apart := false }
def GraftRemovesSaid : Prop := graftRemovesRow.holds Try.pinned (OpenSpec.ofChange graftRemovesSpec)

/-- ITS FALSE NEIGHBOUR: 'it returns false'. Refute it at one input. -/
def graftRemovesWrong : ChangeSpec := { name := "graftRemoves", fn := fun _ => fun
  | [d1, d2, d3] => { results := [.lit (.bool false)], args := [d1, d2, d3] }
  | _ => none }
def GraftRemovesWrongFalsely : Prop := graftRemovesRow.holds Try.pinned (OpenSpec.ofChange graftRemovesWrong)

/-- 'heartwoodlaw08.GraftBack': WHATEVER THE INPUT: true; the input reads as it did. -/
def graftBackSpec : ChangeSpec := { name := "graftBack", fn := fun _ => fun
  | [d1, d2, d3] => { results := [.lit (.bool true)], args := [d1, d2, d3] }
  | _ => none }
def graftBackRow : OpenClaim := { program := "ytajkoeodabmgeaa", sum := "f359f9c3695f146c0a7cf1aef4834075b04f10954892de299be1cc5ac5a5795b", func := "heartwood/heartwoodlaw08.GraftBack", spec := "graftBack", unfollowed := true, recurses := true, apart := false }
def GraftBackSaid : Prop := graftBackRow.holds Try.pinned (OpenSpec.ofChange graftBackSpec)

/-- ITS FALSE NEIGHBOUR: 'it returns false'. Refute it at one input. -/
def graftBackWrong : ChangeSpec := { name := "graftBack", fn := fun _ => fun
  | [d1, d2, d3] => { results := [.lit (.bool false)], args := [d1, d2, d3] }
  | _ => none }
def GraftBackWrongFalsely : Prop := graftBackRow.holds Try.pinned (OpenSpec.ofChange graftBackWrong)

/-- 'heartwoodlaw08.GraftBorrows': WHATEVER THE INPUT: true; the input reads as it did. -/
def graftBorrowsSpec : ChangeSpec := { name := "graftBorrows", fn := fun _ => fun
  | [d1, d2] => { results := [.lit (.bool true)], args := [d1, d2] }
  | _ => none }
def graftBorrowsRow : OpenClaim := { program := "ytajkoeodabmgeaa", sum := "f359f9c3695f146c0a7cf1aef4834075b04f10954892de299be1cc5ac5a5795b", func := "heartwood/heartwoodlaw08.GraftBorrows", spec := "graftBorrows", unfollowed := true, recurses := true, apart := false }
def GraftBorrowsSaid : Prop := graftBorrowsRow.holds Try.pinned (OpenSpec.ofChange graftBorrowsSpec)

/-- ITS FALSE NEIGHBOUR: 'it returns false'. Refute it at one input. -/
def graftBorrowsWrong : ChangeSpec := { name := "graftBorrows", fn := fun _ => fun
  | [d1, d2] => { results := [.lit (.bool false)], args := [d1, d2] }
  | _ => none }
def GraftBorrowsWrongFalsely : Prop := graftBorrowsRow.holds Try.pinned (OpenSpec.ofChange graftBorrowsWrong)

/-- 'heartwoodlaw08.GraftMerges': WHATEVER THE INPUT: true; the input reads as it did. -/
def graftMergesSpec : ChangeSpec := { name := "graftMerges", fn := fun _ => fun
  | [d1, d2] => { results := [.lit (.bool true)], args := [d1, d2] }
  | _ => none }
def graftMergesRow : OpenClaim := { program := "ytajkoeodabmgeaa", sum := "f359f9c3695f146c0a7cf1aef4834075b04f10954892de299be1cc5ac5a5795b", func := "heartwood/heartwoodlaw08.GraftMerges", spec := "graftMerges", unfollowed := true, recurses := true, apart := false }
def GraftMergesSaid : Prop := graftMergesRow.holds Try.pinned (OpenSpec.ofChange graftMergesSpec)

/-- ITS FALSE NEIGHBOUR: 'it returns false'. Refute it at one input. -/
def graftMergesWrong : ChangeSpec := { name := "graftMerges", fn := fun _ => fun
  | [d1, d2] => { results := [.lit (.bool false)], args := [d1, d2] }
  | _ => none }
def GraftMergesWrongFalsely : Prop := graftMergesRow.holds Try.pinned (OpenSpec.ofChange graftMergesWrong)

/-- 'heartwoodlaw08.GraftMends': WHATEVER THE INPUT: true; the input reads as it did. -/
def graftMendsSpec : ChangeSpec := { name := "graftMends", fn := fun _ => fun
  | [d1, d2] => { results := [.lit (.bool true)], args := [d1, d2] }
  | _ => none }
def graftMendsRow : OpenClaim := { program := "ytajkoeodabmgeaa", sum := "f359f9c3695f146c0a7cf1aef4834075b04f10954892de299be1cc5ac5a5795b", func := "heartwood/heartwoodlaw08.GraftMends", spec := "graftMends", unfollowed := true, recurses := true, apart := false }
def GraftMendsSaid : Prop := graftMendsRow.holds Try.pinned (OpenSpec.ofChange graftMendsSpec)

/-- ITS FALSE NEIGHBOUR: 'it returns false'. Refute it at one input. -/
def graftMendsWrong : ChangeSpec := { name := "graftMends", fn := fun _ => fun
  | [d1, d2] => { results := [.lit (.bool false)], args := [d1, d2] }
  | _ => none }
def GraftMendsWrongFalsely : Prop := graftMendsRow.holds Try.pinned (OpenSpec.ofChange graftMendsWrong)

/-- 'heartwoodlaw08.GraftOnce': WHATEVER THE INPUT: true; the input reads as it did. -/
def graftOnceSpec : ChangeSpec := { name := "graftOnce", fn := fun _ => fun
  | [d1, d2] => { results := [.lit (.bool true)], args := [d1, d2] }
  | _ => none }
def graftOnceRow : OpenClaim := { program := "ytajkoeodabmgeaa", sum := "f359f9c3695f146c0a7cf1aef4834075b04f10954892de299be1cc5ac5a5795b", func := "heartwood/heartwoodlaw08.GraftOnce", spec := "graftOnce", unfollowed := true, recurses := true, apart := false }
def GraftOnceSaid : Prop := graftOnceRow.holds Try.pinned (OpenSpec.ofChange graftOnceSpec)

/-- ITS FALSE NEIGHBOUR: 'it returns false'. Refute it at one input. -/
def graftOnceWrong : ChangeSpec := { name := "graftOnce", fn := fun _ => fun
  | [d1, d2] => { results := [.lit (.bool false)], args := [d1, d2] }
  | _ => none }
def GraftOnceWrongFalsely : Prop := graftOnceRow.holds Try.pinned (OpenSpec.ofChange graftOnceWrong)

/- THE SECOND FORM. 'bulk': how many values and letters a reading holds, each counted each time it is reached (what is shared counts as often as it is met; a slice's spare places count too). A statement '..UptoSaid' is the law's where the arguments, and the package variables that the reading takes, are together of bulk at most 1048576: NARROWER than '..Said'. Prove '..Said' where nothing that the law and all that it calls make is longer than what came in: it says more and counts as full. Else prove '..UptoSaid'. A law counts once. -/
mutual
def uptoBulk {H : Type} : DataW H → Nat
  | .lit (.string bytes) => bytes.length + 1
  | .lit _ => 1
  | .nil => 1
  | .ptr d => uptoBulk d + 1
  | .slice elems spare => uptoBulkAll elems + uptoBulkAll spare + 1
  | .agg parts => uptoBulkAll parts + 1
  | .iface _ d => uptoBulk d + 1
  | .map entries => uptoBulkEntries entries + 1
  | .held _ => 1
def uptoBulkAll {H : Type} : List (DataW H) → Nat
  | [] => 0
  | d :: r => uptoBulk d + uptoBulkAll r
def uptoBulkEntries {H : Type} : List (Lit × DataW H) → Nat
  | [] => 0
  | x :: r => uptoBulkEntry x + uptoBulkEntries r
def uptoBulkEntry {H : Type} : Lit × DataW H → Nat
  | (.string bytes, d) => bytes.length + uptoBulk d + 1
  | (_, d) => uptoBulk d + 1
 end
def uptoSmall : (H : Type) → List (DataW H) → Bool := fun _ ds => decide (uptoBulkAll ds ≤ 1048576)
def OpenSpec.upto (s : _root_.Go.ChangeSpec) : _root_.Go.OpenSpec := { _root_.Go.OpenSpec.ofChange s with cond := some uptoSmall }

/-- 'heartwoodlaw08.GraftNames', WHERE WHAT IT READS IS OF BULK AT MOST 1048576: true; the input reads as it did. -/
def graftNamesUptoRow : OpenClaim := { program := "ytajkoeodabmgeaa", sum := "f359f9c3695f146c0a7cf1aef4834075b04f10954892de299be1cc5ac5a5795b", func := "heartwood/heartwoodlaw08.GraftNames", spec := "graftNames", unfollowed := true, recurses := true, apart := false, narrowed := true }
def GraftNamesUptoSaid : Prop := graftNamesUptoRow.holds Try.pinned (OpenSpec.upto graftNamesSpec)

/-- 'heartwoodlaw08.GraftPuts', WHERE WHAT IT READS IS OF BULK AT MOST 1048576: true; the input reads as it did. -/
def graftPutsUptoRow : OpenClaim := { program := "ytajkoeodabmgeaa", sum := "f359f9c3695f146c0a7cf1aef4834075b04f10954892de299be1cc5ac5a5795b", func := "heartwood/heartwoodlaw08.GraftPuts", spec := "graftPuts", unfollowed := true, recurses := true, apart := false, narrowed := true }
def GraftPutsUptoSaid : Prop := graftPutsUptoRow.holds Try.pinned (OpenSpec.upto graftPutsSpec)

/-- 'heartwoodlaw08.GraftBetween', WHERE WHAT IT READS IS OF BULK AT MOST 1048576: true; the input reads as it did. -/
def graftBetweenUptoRow : OpenClaim := { program := "ytajkoeodabmgeaa", sum := "f359f9c3695f146c0a7cf1aef4834075b04f10954892de299be1cc5ac5a5795b", func := "heartwood/heartwoodlaw08.GraftBetween", spec := "graftBetween", unfollowed := true, recurses := true, apart := false, narrowed := true }
def GraftBetweenUptoSaid : Prop := graftBetweenUptoRow.holds Try.pinned (OpenSpec.upto graftBetweenSpec)

/-- 'heartwoodlaw08.GraftCuts', WHERE WHAT IT READS IS OF BULK AT MOST 1048576: true; the input reads as it did. -/
def graftCutsUptoRow : OpenClaim := { program := "ytajkoeodabmgeaa", sum := "f359f9c3695f146c0a7cf1aef4834075b04f10954892de299be1cc5ac5a5795b", func := "heartwood/heartwoodlaw08.GraftCuts", spec := "graftCuts", unfollowed := true, recurses := true, apart := false, narrowed := true }
def GraftCutsUptoSaid : Prop := graftCutsUptoRow.holds Try.pinned (OpenSpec.upto graftCutsSpec)

/-- 'heartwoodlaw08.GraftSplits', WHERE WHAT IT READS IS OF BULK AT MOST 1048576: true; the input reads as it did. -/
def graftSplitsUptoRow : OpenClaim := { program := "ytajkoeodabmgeaa", sum := "f359f9c3695f146c0a7cf1aef4834075b04f10954892de299be1cc5ac5a5795b", func := "heartwood/heartwoodlaw08.GraftSplits", spec := "graftSplits", unfollowed := true, recurses := true, apart := false, narrowed := true }
def GraftSplitsUptoSaid : Prop := graftSplitsUptoRow.holds Try.pinned (OpenSpec.upto graftSplitsSpec)

/-- 'heartwoodlaw08.GraftSeparates', WHERE WHAT IT READS IS OF BULK AT MOST 1048576: true; the input reads as it did. -/
def graftSeparatesUptoRow : OpenClaim := { program := "ytajkoeodabmgeaa", sum := "f359f9c3695f146c0a7cf1aef4834075b04f10954892de299be1cc5ac5a5795b", func := "heartwood/heartwoodlaw08.GraftSeparates", spec := "graftSeparates", unfollowed := true, recurses := true, apart := false, narrowed := true }
def GraftSeparatesUptoSaid : Prop := graftSeparatesUptoRow.holds Try.pinned (OpenSpec.upto graftSeparatesSpec)

/-- 'heartwoodlaw08.GraftFull', WHERE WHAT IT READS IS OF BULK AT MOST 1048576: true; the input reads as it did. -/
def graftFullUptoRow : OpenClaim := { program := "ytajkoeodabmgeaa", sum := "f359f9c3695f146c0a7cf1aef4834075b04f10954892de299be1cc5ac5a5795b", func := "heartwood/heartwoodlaw08.GraftFull", spec := "graftFull", unfollowed := true, recurses := true, apart := false, narrowed := true }
def GraftFullUptoSaid : Prop := graftFullUptoRow.holds Try.pinned (OpenSpec.upto graftFullSpec)

/-- 'heartwoodlaw08.GraftHalves', WHERE WHAT IT READS IS OF BULK AT MOST 1048576: true; the input reads as it did. -/
def graftHalvesUptoRow : OpenClaim := { program := "ytajkoeodabmgeaa", sum := "f359f9c3695f146c0a7cf1aef4834075b04f10954892de299be1cc5ac5a5795b", func := "heartwood/heartwoodlaw08.GraftHalves", spec := "graftHalves", unfollowed := true, recurses := true, apart := false, narrowed := true }
def GraftHalvesUptoSaid : Prop := graftHalvesUptoRow.holds Try.pinned (OpenSpec.upto graftHalvesSpec)

/-- 'heartwoodlaw08.GraftFinds', WHERE WHAT IT READS IS OF BULK AT MOST 1048576: true; the input reads as it did. -/
def graftFindsUptoRow : OpenClaim := { program := "ytajkoeodabmgeaa", sum := "f359f9c3695f146c0a7cf1aef4834075b04f10954892de299be1cc5ac5a5795b", func := "heartwood/heartwoodlaw08.GraftFinds", spec := "graftFinds", unfollowed := true, recurses := true, apart := false, narrowed := true }
def GraftFindsUptoSaid : Prop := graftFindsUptoRow.holds Try.pinned (OpenSpec.upto graftFindsSpec)

/-- 'heartwoodlaw08.GraftWays', WHERE WHAT IT READS IS OF BULK AT MOST 1048576: true; the input reads as it did. -/
def graftWaysUptoRow : OpenClaim := { program := "ytajkoeodabmgeaa", sum := "f359f9c3695f146c0a7cf1aef4834075b04f10954892de299be1cc5ac5a5795b", func := "heartwood/heartwoodlaw08.GraftWays", spec := "graftWays", unfollowed := true, recurses := true, apart := false, narrowed := true }
def GraftWaysUptoSaid : Prop := graftWaysUptoRow.holds Try.pinned (OpenSpec.upto graftWaysSpec)

/-- 'heartwoodlaw08.GraftSplices', WHERE WHAT IT READS IS OF BULK AT MOST 1048576: true; the input reads as it did. -/
def graftSplicesUptoRow : OpenClaim := { program := "ytajkoeodabmgeaa", sum := "f359f9c3695f146c0a7cf1aef4834075b04f10954892de299be1cc5ac5a5795b", func := "heartwood/heartwoodlaw08.GraftSplices", spec := "graftSplices", unfollowed := true, recurses := true, apart := false, narrowed := true }
def GraftSplicesUptoSaid : Prop := graftSplicesUptoRow.holds Try.pinned (OpenSpec.upto graftSplicesSpec)

/-- 'heartwoodlaw08.GraftRemoves', WHERE WHAT IT READS IS OF BULK AT MOST 1048576: true; the input reads as it did. -/
def graftRemovesUptoRow : OpenClaim := { program := "ytajkoeodabmgeaa", sum := "f359f9c3695f146c0a7cf1aef4834075b04f10954892de299be1cc5ac5a5795b", func := "heartwood/heartwoodlaw08.GraftRemoves", spec := "graftRemoves", unfollowed := true, recurses := true, apart := false, narrowed := true }
def GraftRemovesUptoSaid : Prop := graftRemovesUptoRow.holds Try.pinned (OpenSpec.upto graftRemovesSpec)

/-- 'heartwoodlaw08.GraftBack', WHERE WHAT IT READS IS OF BULK AT MOST 1048576: true; the input reads as it did. -/
def graftBackUptoRow : OpenClaim := { program := "ytajkoeodabmgeaa", sum := "f359f9c3695f146c0a7cf1aef4834075b04f10954892de299be1cc5ac5a5795b", func := "heartwood/heartwoodlaw08.GraftBack", spec := "graftBack", unfollowed := true, recurses := true, apart := false, narrowed := true }
def GraftBackUptoSaid : Prop := graftBackUptoRow.holds Try.pinned (OpenSpec.upto graftBackSpec)

/-- 'heartwoodlaw08.GraftBorrows', WHERE WHAT IT READS IS OF BULK AT MOST 1048576: true; the input reads as it did. -/
def graftBorrowsUptoRow : OpenClaim := { program := "ytajkoeodabmgeaa", sum := "f359f9c3695f146c0a7cf1aef4834075b04f10954892de299be1cc5ac5a5795b", func := "heartwood/heartwoodlaw08.GraftBorrows", spec := "graftBorrows", unfollowed := true, recurses := true, apart := false, narrowed := true }
def GraftBorrowsUptoSaid : Prop := graftBorrowsUptoRow.holds Try.pinned (OpenSpec.upto graftBorrowsSpec)

/-- 'heartwoodlaw08.GraftMerges', WHERE WHAT IT READS IS OF BULK AT MOST 1048576: true; the input reads as it did. -/
def graftMergesUptoRow : OpenClaim := { program := "ytajkoeodabmgeaa", sum := "f359f9c3695f146c0a7cf1aef4834075b04f10954892de299be1cc5ac5a5795b", func := "heartwood/heartwoodlaw08.GraftMerges", spec := "graftMerges", unfollowed := true, recurses := true, apart := false, narrowed := true }
def GraftMergesUptoSaid : Prop := graftMergesUptoRow.holds Try.pinned (OpenSpec.upto graftMergesSpec)

/-- 'heartwoodlaw08.GraftMends', WHERE WHAT IT READS IS OF BULK AT MOST 1048576: true; the input reads as it did. -/
def graftMendsUptoRow : OpenClaim := { program := "ytajkoeodabmgeaa", sum := "f359f9c3695f146c0a7cf1aef4834075b04f10954892de299be1cc5ac5a5795b", func := "heartwood/heartwoodlaw08.GraftMends", spec := "graftMends", unfollowed := true, recurses := true, apart := false, narrowed := true }
def GraftMendsUptoSaid : Prop := graftMendsUptoRow.holds Try.pinned (OpenSpec.upto graftMendsSpec)

/-- 'heartwoodlaw08.GraftOnce', WHERE WHAT IT READS IS OF BULK AT MOST 1048576: true; the input reads as it did. -/
def graftOnceUptoRow : OpenClaim := { program := "ytajkoeodabmgeaa", sum := "f359f9c3695f146c0a7cf1aef4834075b04f10954892de299be1cc5ac5a5795b", func := "heartwood/heartwoodlaw08.GraftOnce", spec := "graftOnce", unfollowed := true, recurses := true, apart := false, narrowed := true }
def GraftOnceUptoSaid : Prop := graftOnceUptoRow.holds Try.pinned (OpenSpec.upto graftOnceSpec)

end Rows
end Go.Proofs.Ytajkoeodabmgeaa
