/-
  No cell of these rows narrows 'for every input' (looked for: loops, veiled, ifaces, maps, wideKeys, modest, calm, conditions, laid).
  DERIVED. THE GIVEN ROWS OF THIS SEAT. 18 by the template 'for every input the law returns true; each argument reads behind the call as it read before'; 0 by the template 'total and deterministic' (their statements: YtogdhkecpjndlaaTotals.lean).
  GIVEN WITH THE SEED: the statements are not yours to turn. If you find one false, say at which input.
  Laid BY PROGRAM, IN A SANDBOX (cutbox-rows.mjs): the forced cells as the released guide's own fill.sh prints them over the translation 59e579cdc7a30c01… (all of the seat's roots in one cut). By AI agents, Wed Nov 11 2026. No macro, syntax, notation, axiom, sorry.
-/
import Derived.Test.YtogdhkecpjndlaaChecked
import GoSem.Claim
import GoSem.ClaimJoined
import GoSem.ClaimMapViews
import Derived.JoinedTies
import Derived.KernelRfl
namespace Go.Proofs.Ytogdhkecpjndlaa
/- THE CELL 'sum', in the pinned program and in every row, IS THE sha256 OF THE DUMP (.gsa) THAT YtogdhkecpjndlaaProg.lean LOADS. Nothing in Lean hashes anything: it is a label: what it is worth is what the hold of that sum in a sandbox is worth. -/
noncomputable def Try.pinned : Pinned := { name := "ytogdhkecpjndlaa", sum := "59e579cdc7a30c01e8a5abc9a30d5001d4d9db09b872d4da7199f444ab47f6dd", checked := Try.checked }
namespace Rows
def none {H : Type} : Left H := { results := [], args := [] }

/-- 'anillaw11.GrowerClears': WHATEVER THE INPUT: true; the input reads as it did. -/
def growerClearsSpec : ChangeSpec := { name := "growerClears", fn := fun _ => fun
  | [d] => { results := [.lit (.bool true)], args := [d] }
  | _ => none }
def growerClearsRow : OpenClaim := { program := "ytogdhkecpjndlaa", sum := "59e579cdc7a30c01e8a5abc9a30d5001d4d9db09b872d4da7199f444ab47f6dd", func := "anil/anillaw11.GrowerClears", spec := "growerClears", unfollowed := true, recurses := true, plainKeys := false, apart := false }
def GrowerClearsSaid : Prop := growerClearsRow.holds Try.pinned (OpenSpec.ofChange growerClearsSpec)

/-- ITS FALSE NEIGHBOUR: 'it returns false'. Refute it at one input. -/
def growerClearsWrong : ChangeSpec := { name := "growerClears", fn := fun _ => fun
  | [d] => { results := [.lit (.bool false)], args := [d] }
  | _ => none }
def GrowerClearsWrongFalsely : Prop := growerClearsRow.holds Try.pinned (OpenSpec.ofChange growerClearsWrong)

/-- 'anillaw11.GrowerShares': WHATEVER THE INPUT: true; the input reads as it did. -/
def growerSharesSpec : ChangeSpec := { name := "growerShares", fn := fun _ => fun
  | [d1, d2, d3] => { results := [.lit (.bool true)], args := [d1, d2, d3] }
  | _ => none }
def growerSharesRow : OpenClaim := { program := "ytogdhkecpjndlaa", sum := "59e579cdc7a30c01e8a5abc9a30d5001d4d9db09b872d4da7199f444ab47f6dd", func := "anil/anillaw11.GrowerShares", spec := "growerShares", unfollowed := true, recurses := true, plainKeys := false, apart := false }
def GrowerSharesSaid : Prop := growerSharesRow.holds Try.pinned (OpenSpec.ofChange growerSharesSpec)

/-- ITS FALSE NEIGHBOUR: 'it returns false'. Refute it at one input. -/
def growerSharesWrong : ChangeSpec := { name := "growerShares", fn := fun _ => fun
  | [d1, d2, d3] => { results := [.lit (.bool false)], args := [d1, d2, d3] }
  | _ => none }
def GrowerSharesWrongFalsely : Prop := growerSharesRow.holds Try.pinned (OpenSpec.ofChange growerSharesWrong)

/-- 'anillaw11.GrowerLeast': WHATEVER THE INPUT: true; the input reads as it did. -/
def growerLeastSpec : ChangeSpec := { name := "growerLeast", fn := fun _ => fun
  | [d1, d2] => { results := [.lit (.bool true)], args := [d1, d2] }
  | _ => none }
def growerLeastRow : OpenClaim := { program := "ytogdhkecpjndlaa", sum := "59e579cdc7a30c01e8a5abc9a30d5001d4d9db09b872d4da7199f444ab47f6dd", func := "anil/anillaw11.GrowerLeast", spec := "growerLeast", unfollowed := true, recurses := true, plainKeys := false, apart := false }
def GrowerLeastSaid : Prop := growerLeastRow.holds Try.pinned (OpenSpec.ofChange growerLeastSpec)

/-- ITS FALSE NEIGHBOUR: 'it returns false'. Refute it at one input. -/
def growerLeastWrong : ChangeSpec := { name := "growerLeast", fn := fun _ => fun
  | [d1, d2] => { results := [.lit (.bool false)], args := [d1, d2] }
  | _ => none }
def GrowerLeastWrongFalsely : Prop := growerLeastRow.holds Try.pinned (OpenSpec.ofChange growerLeastWrong)

/-- 'anillaw11.GrowerOut': WHATEVER THE INPUT: true; the input reads as it did. -/
def growerOutSpec : ChangeSpec := { name := "growerOut", fn := fun _ => fun
  | [d1, d2, d3] => { results := [.lit (.bool true)], args := [d1, d2, d3] }
  | _ => none }
def growerOutRow : OpenClaim := { program := "ytogdhkecpjndlaa", sum := "59e579cdc7a30c01e8a5abc9a30d5001d4d9db09b872d4da7199f444ab47f6dd", func := "anil/anillaw11.GrowerOut", spec := "growerOut", unfollowed := true, recurses := true, plainKeys := false, apart := false }
def GrowerOutSaid : Prop := growerOutRow.holds Try.pinned (OpenSpec.ofChange growerOutSpec)

/-- ITS FALSE NEIGHBOUR: 'it returns false'. Refute it at one input. -/
def growerOutWrong : ChangeSpec := { name := "growerOut", fn := fun _ => fun
  | [d1, d2, d3] => { results := [.lit (.bool false)], args := [d1, d2, d3] }
  | _ => none }
def GrowerOutWrongFalsely : Prop := growerOutRow.holds Try.pinned (OpenSpec.ofChange growerOutWrong)

/-- 'anillaw11.GrowerFirst': WHATEVER THE INPUT: true; the input reads as it did. -/
def growerFirstSpec : ChangeSpec := { name := "growerFirst", fn := fun _ => fun
  | [d] => { results := [.lit (.bool true)], args := [d] }
  | _ => none }
def growerFirstRow : OpenClaim := { program := "ytogdhkecpjndlaa", sum := "59e579cdc7a30c01e8a5abc9a30d5001d4d9db09b872d4da7199f444ab47f6dd", func := "anil/anillaw11.GrowerFirst", spec := "growerFirst", unfollowed := true, recurses := true, plainKeys := false, apart := false }
def GrowerFirstSaid : Prop := growerFirstRow.holds Try.pinned (OpenSpec.ofChange growerFirstSpec)

/-- ITS FALSE NEIGHBOUR: 'it returns false'. Refute it at one input. -/
def growerFirstWrong : ChangeSpec := { name := "growerFirst", fn := fun _ => fun
  | [d] => { results := [.lit (.bool false)], args := [d] }
  | _ => none }
def GrowerFirstWrongFalsely : Prop := growerFirstRow.holds Try.pinned (OpenSpec.ofChange growerFirstWrong)

/-- 'anillaw11.GrowerCoin': WHATEVER THE INPUT: true; the input reads as it did. -/
def growerCoinSpec : ChangeSpec := { name := "growerCoin", fn := fun _ => fun
  | [d1, d2, d3] => { results := [.lit (.bool true)], args := [d1, d2, d3] }
  | _ => none }
def growerCoinRow : OpenClaim := { program := "ytogdhkecpjndlaa", sum := "59e579cdc7a30c01e8a5abc9a30d5001d4d9db09b872d4da7199f444ab47f6dd", func := "anil/anillaw11.GrowerCoin", spec := "growerCoin", unfollowed := true, recurses := true, plainKeys := false, apart := false }
def GrowerCoinSaid : Prop := growerCoinRow.holds Try.pinned (OpenSpec.ofChange growerCoinSpec)

/-- ITS FALSE NEIGHBOUR: 'it returns false'. Refute it at one input. -/
def growerCoinWrong : ChangeSpec := { name := "growerCoin", fn := fun _ => fun
  | [d1, d2, d3] => { results := [.lit (.bool false)], args := [d1, d2, d3] }
  | _ => none }
def GrowerCoinWrongFalsely : Prop := growerCoinRow.holds Try.pinned (OpenSpec.ofChange growerCoinWrong)

/-- 'anillaw11.GrowerTruth': WHATEVER THE INPUT: true; the input reads as it did. -/
def growerTruthSpec : ChangeSpec := { name := "growerTruth", fn := fun _ => fun
  | [d1, d2, d3, d4] => { results := [.lit (.bool true)], args := [d1, d2, d3, d4] }
  | _ => none }
def growerTruthRow : OpenClaim := { program := "ytogdhkecpjndlaa", sum := "59e579cdc7a30c01e8a5abc9a30d5001d4d9db09b872d4da7199f444ab47f6dd", func := "anil/anillaw11.GrowerTruth", spec := "growerTruth", unfollowed := true, recurses := true, plainKeys := false, apart := false }
def GrowerTruthSaid : Prop := growerTruthRow.holds Try.pinned (OpenSpec.ofChange growerTruthSpec)

/-- ITS FALSE NEIGHBOUR: 'it returns false'. Refute it at one input. -/
def growerTruthWrong : ChangeSpec := { name := "growerTruth", fn := fun _ => fun
  | [d1, d2, d3, d4] => { results := [.lit (.bool false)], args := [d1, d2, d3, d4] }
  | _ => none }
def GrowerTruthWrongFalsely : Prop := growerTruthRow.holds Try.pinned (OpenSpec.ofChange growerTruthWrong)

/-- 'anillaw11.GrowerFull': WHATEVER THE INPUT: true; the input reads as it did. -/
def growerFullSpec : ChangeSpec := { name := "growerFull", fn := fun _ => fun
  | [d1, d2] => { results := [.lit (.bool true)], args := [d1, d2] }
  | _ => none }
def growerFullRow : OpenClaim := { program := "ytogdhkecpjndlaa", sum := "59e579cdc7a30c01e8a5abc9a30d5001d4d9db09b872d4da7199f444ab47f6dd", func := "anil/anillaw11.GrowerFull", spec := "growerFull", unfollowed := true, recurses := true, plainKeys := false, apart := false }
def GrowerFullSaid : Prop := growerFullRow.holds Try.pinned (OpenSpec.ofChange growerFullSpec)

/-- ITS FALSE NEIGHBOUR: 'it returns false'. Refute it at one input. -/
def growerFullWrong : ChangeSpec := { name := "growerFull", fn := fun _ => fun
  | [d1, d2] => { results := [.lit (.bool false)], args := [d1, d2] }
  | _ => none }
def GrowerFullWrongFalsely : Prop := growerFullRow.holds Try.pinned (OpenSpec.ofChange growerFullWrong)

/-- 'anillaw11.GrowerStruck': WHATEVER THE INPUT: true; the input reads as it did. -/
def growerStruckSpec : ChangeSpec := { name := "growerStruck", fn := fun _ => fun
  | [d] => { results := [.lit (.bool true)], args := [d] }
  | _ => none }
def growerStruckRow : OpenClaim := { program := "ytogdhkecpjndlaa", sum := "59e579cdc7a30c01e8a5abc9a30d5001d4d9db09b872d4da7199f444ab47f6dd", func := "anil/anillaw11.GrowerStruck", spec := "growerStruck", unfollowed := true, recurses := true, plainKeys := false, apart := false }
def GrowerStruckSaid : Prop := growerStruckRow.holds Try.pinned (OpenSpec.ofChange growerStruckSpec)

/-- ITS FALSE NEIGHBOUR: 'it returns false'. Refute it at one input. -/
def growerStruckWrong : ChangeSpec := { name := "growerStruck", fn := fun _ => fun
  | [d] => { results := [.lit (.bool false)], args := [d] }
  | _ => none }
def GrowerStruckWrongFalsely : Prop := growerStruckRow.holds Try.pinned (OpenSpec.ofChange growerStruckWrong)

/-- 'anillaw11.GrowerCounted': WHATEVER THE INPUT: true; the input reads as it did. -/
def growerCountedSpec : ChangeSpec := { name := "growerCounted", fn := fun _ => fun
  | [d1, d2] => { results := [.lit (.bool true)], args := [d1, d2] }
  | _ => none }
def growerCountedRow : OpenClaim := { program := "ytogdhkecpjndlaa", sum := "59e579cdc7a30c01e8a5abc9a30d5001d4d9db09b872d4da7199f444ab47f6dd", func := "anil/anillaw11.GrowerCounted", spec := "growerCounted", unfollowed := true, recurses := true, plainKeys := false, apart := false }
def GrowerCountedSaid : Prop := growerCountedRow.holds Try.pinned (OpenSpec.ofChange growerCountedSpec)

/-- ITS FALSE NEIGHBOUR: 'it returns false'. Refute it at one input. -/
def growerCountedWrong : ChangeSpec := { name := "growerCounted", fn := fun _ => fun
  | [d1, d2] => { results := [.lit (.bool false)], args := [d1, d2] }
  | _ => none }
def GrowerCountedWrongFalsely : Prop := growerCountedRow.holds Try.pinned (OpenSpec.ofChange growerCountedWrong)

/-- 'anillaw11.GrowerLeft': WHATEVER THE INPUT: true; the input reads as it did. -/
def growerLeftSpec : ChangeSpec := { name := "growerLeft", fn := fun _ => fun
  | [d1, d2] => { results := [.lit (.bool true)], args := [d1, d2] }
  | _ => none }
def growerLeftRow : OpenClaim := { program := "ytogdhkecpjndlaa", sum := "59e579cdc7a30c01e8a5abc9a30d5001d4d9db09b872d4da7199f444ab47f6dd", func := "anil/anillaw11.GrowerLeft", spec := "growerLeft", unfollowed := true, recurses := true, plainKeys := false, apart := false }
def GrowerLeftSaid : Prop := growerLeftRow.holds Try.pinned (OpenSpec.ofChange growerLeftSpec)

/-- ITS FALSE NEIGHBOUR: 'it returns false'. Refute it at one input. -/
def growerLeftWrong : ChangeSpec := { name := "growerLeft", fn := fun _ => fun
  | [d1, d2] => { results := [.lit (.bool false)], args := [d1, d2] }
  | _ => none }
def GrowerLeftWrongFalsely : Prop := growerLeftRow.holds Try.pinned (OpenSpec.ofChange growerLeftWrong)

/-- 'anillaw11.GrowerPlays': WHATEVER THE INPUT: true; the input reads as it did. -/
def growerPlaysSpec : ChangeSpec := { name := "growerPlays", fn := fun _ => fun
  | [d1, d2] => { results := [.lit (.bool true)], args := [d1, d2] }
  | _ => none }
def growerPlaysRow : OpenClaim := { program := "ytogdhkecpjndlaa", sum := "59e579cdc7a30c01e8a5abc9a30d5001d4d9db09b872d4da7199f444ab47f6dd", func := "anil/anillaw11.GrowerPlays", spec := "growerPlays", unfollowed := true, recurses := true, plainKeys := false, apart := false }
def GrowerPlaysSaid : Prop := growerPlaysRow.holds Try.pinned (OpenSpec.ofChange growerPlaysSpec)

/-- ITS FALSE NEIGHBOUR: 'it returns false'. Refute it at one input. -/
def growerPlaysWrong : ChangeSpec := { name := "growerPlays", fn := fun _ => fun
  | [d1, d2] => { results := [.lit (.bool false)], args := [d1, d2] }
  | _ => none }
def GrowerPlaysWrongFalsely : Prop := growerPlaysRow.holds Try.pinned (OpenSpec.ofChange growerPlaysWrong)

/-- 'anillaw11.GrowerBounds': WHATEVER THE INPUT: true; the input reads as it did. -/
def growerBoundsSpec : ChangeSpec := { name := "growerBounds", fn := fun _ => fun
  | [d] => { results := [.lit (.bool true)], args := [d] }
  | _ => none }
def growerBoundsRow : OpenClaim := { program := "ytogdhkecpjndlaa", sum := "59e579cdc7a30c01e8a5abc9a30d5001d4d9db09b872d4da7199f444ab47f6dd", func := "anil/anillaw11.GrowerBounds", spec := "growerBounds", unfollowed := true, recurses := true, plainKeys := false, apart := false }
def GrowerBoundsSaid : Prop := growerBoundsRow.holds Try.pinned (OpenSpec.ofChange growerBoundsSpec)

/-- ITS FALSE NEIGHBOUR: 'it returns false'. Refute it at one input. -/
def growerBoundsWrong : ChangeSpec := { name := "growerBounds", fn := fun _ => fun
  | [d] => { results := [.lit (.bool false)], args := [d] }
  | _ => none }
def GrowerBoundsWrongFalsely : Prop := growerBoundsRow.holds Try.pinned (OpenSpec.ofChange growerBoundsWrong)

/-- 'anillaw11.GrowerEnds': WHATEVER THE INPUT: true; the input reads as it did. -/
def growerEndsSpec : ChangeSpec := { name := "growerEnds", fn := fun _ => fun
  | [d1, d2] => { results := [.lit (.bool true)], args := [d1, d2] }
  | _ => none }
def growerEndsRow : OpenClaim := { program := "ytogdhkecpjndlaa", sum := "59e579cdc7a30c01e8a5abc9a30d5001d4d9db09b872d4da7199f444ab47f6dd", func := "anil/anillaw11.GrowerEnds", spec := "growerEnds", unfollowed := true, recurses := true, plainKeys := false, apart := false }
def GrowerEndsSaid : Prop := growerEndsRow.holds Try.pinned (OpenSpec.ofChange growerEndsSpec)

/-- ITS FALSE NEIGHBOUR: 'it returns false'. Refute it at one input. -/
def growerEndsWrong : ChangeSpec := { name := "growerEnds", fn := fun _ => fun
  | [d1, d2] => { results := [.lit (.bool false)], args := [d1, d2] }
  | _ => none }
def GrowerEndsWrongFalsely : Prop := growerEndsRow.holds Try.pinned (OpenSpec.ofChange growerEndsWrong)

/-- 'anillaw11.GrowerAdvance': WHATEVER THE INPUT: true; the input reads as it did. -/
def growerAdvanceSpec : ChangeSpec := { name := "growerAdvance", fn := fun _ => fun
  | [d1, d2, d3] => { results := [.lit (.bool true)], args := [d1, d2, d3] }
  | _ => none }
def growerAdvanceRow : OpenClaim := { program := "ytogdhkecpjndlaa", sum := "59e579cdc7a30c01e8a5abc9a30d5001d4d9db09b872d4da7199f444ab47f6dd", func := "anil/anillaw11.GrowerAdvance", spec := "growerAdvance", unfollowed := true, recurses := true, plainKeys := false, apart := false }
def GrowerAdvanceSaid : Prop := growerAdvanceRow.holds Try.pinned (OpenSpec.ofChange growerAdvanceSpec)

/-- ITS FALSE NEIGHBOUR: 'it returns false'. Refute it at one input. -/
def growerAdvanceWrong : ChangeSpec := { name := "growerAdvance", fn := fun _ => fun
  | [d1, d2, d3] => { results := [.lit (.bool false)], args := [d1, d2, d3] }
  | _ => none }
def GrowerAdvanceWrongFalsely : Prop := growerAdvanceRow.holds Try.pinned (OpenSpec.ofChange growerAdvanceWrong)

/-- 'anillaw11.GrowerMore': WHATEVER THE INPUT: true; the input reads as it did. -/
def growerMoreSpec : ChangeSpec := { name := "growerMore", fn := fun _ => fun
  | [d1, d2, d3] => { results := [.lit (.bool true)], args := [d1, d2, d3] }
  | _ => none }
def growerMoreRow : OpenClaim := { program := "ytogdhkecpjndlaa", sum := "59e579cdc7a30c01e8a5abc9a30d5001d4d9db09b872d4da7199f444ab47f6dd", func := "anil/anillaw11.GrowerMore", spec := "growerMore", unfollowed := true, recurses := true, plainKeys := false, apart := false }
def GrowerMoreSaid : Prop := growerMoreRow.holds Try.pinned (OpenSpec.ofChange growerMoreSpec)

/-- ITS FALSE NEIGHBOUR: 'it returns false'. Refute it at one input. -/
def growerMoreWrong : ChangeSpec := { name := "growerMore", fn := fun _ => fun
  | [d1, d2, d3] => { results := [.lit (.bool false)], args := [d1, d2, d3] }
  | _ => none }
def GrowerMoreWrongFalsely : Prop := growerMoreRow.holds Try.pinned (OpenSpec.ofChange growerMoreWrong)

/-- 'anillaw11.GrowerWider': WHATEVER THE INPUT: true; the input reads as it did. -/
def growerWiderSpec : ChangeSpec := { name := "growerWider", fn := fun _ => fun
  | [d1, d2, d3, d4] => { results := [.lit (.bool true)], args := [d1, d2, d3, d4] }
  | _ => none }
def growerWiderRow : OpenClaim := { program := "ytogdhkecpjndlaa", sum := "59e579cdc7a30c01e8a5abc9a30d5001d4d9db09b872d4da7199f444ab47f6dd", func := "anil/anillaw11.GrowerWider", spec := "growerWider", unfollowed := true, recurses := true, plainKeys := false, apart := false }
def GrowerWiderSaid : Prop := growerWiderRow.holds Try.pinned (OpenSpec.ofChange growerWiderSpec)

/-- ITS FALSE NEIGHBOUR: 'it returns false'. Refute it at one input. -/
def growerWiderWrong : ChangeSpec := { name := "growerWider", fn := fun _ => fun
  | [d1, d2, d3, d4] => { results := [.lit (.bool false)], args := [d1, d2, d3, d4] }
  | _ => none }
def GrowerWiderWrongFalsely : Prop := growerWiderRow.holds Try.pinned (OpenSpec.ofChange growerWiderWrong)

/-- 'anillaw11.GrowerLeaves': WHATEVER THE INPUT: true; the input reads as it did. -/
def growerLeavesSpec : ChangeSpec := { name := "growerLeaves", fn := fun _ => fun
  | [d] => { results := [.lit (.bool true)], args := [d] }
  | _ => none }
def growerLeavesRow : OpenClaim := { program := "ytogdhkecpjndlaa", sum := "59e579cdc7a30c01e8a5abc9a30d5001d4d9db09b872d4da7199f444ab47f6dd", func := "anil/anillaw11.GrowerLeaves", spec := "growerLeaves", unfollowed := true, recurses := true, plainKeys := false, apart := false }
def GrowerLeavesSaid : Prop := growerLeavesRow.holds Try.pinned (OpenSpec.ofChange growerLeavesSpec)

/-- ITS FALSE NEIGHBOUR: 'it returns false'. Refute it at one input. -/
def growerLeavesWrong : ChangeSpec := { name := "growerLeaves", fn := fun _ => fun
  | [d] => { results := [.lit (.bool false)], args := [d] }
  | _ => none }
def GrowerLeavesWrongFalsely : Prop := growerLeavesRow.holds Try.pinned (OpenSpec.ofChange growerLeavesWrong)

/- THE SECOND FORM. 'bulk': how many values and letters a reading holds, each counted each time it is reached (what is shared counts as often as it is met; a slice's spare places count too). A statement '..UptoSaid' is the law's where the arguments, and the package variables that the reading takes, are together of bulk at most 1048576: NARROWER than '..Said'. Prove '..Said' where nothing that the law and all that it calls make is longer than what came in: it says more and counts as full. Else prove '..UptoSaid'. A law counts once. -/
mutual
def uptoBulk {H : Type} : DataW H → Nat
  | .lit (.string bytes) => bytes.length + 1
  | .lit _ => 1
  | .nil => 1
  | .ptr d => uptoBulk d + 1
  | .slice elems spare => uptoBulkAll elems + uptoBulkAll spare + 1
  | .agg parts => uptoBulkAll parts + 1
  | .iface _ d => uptoBulk d + 1
  | .map entries => uptoBulkEntries entries + 1
  | .held _ => 1
def uptoBulkAll {H : Type} : List (DataW H) → Nat
  | [] => 0
  | d :: r => uptoBulk d + uptoBulkAll r
def uptoBulkEntries {H : Type} : List (Lit × DataW H) → Nat
  | [] => 0
  | x :: r => uptoBulkEntry x + uptoBulkEntries r
def uptoBulkEntry {H : Type} : Lit × DataW H → Nat
  | (.string bytes, d) => bytes.length + uptoBulk d + 1
  | (_, d) => uptoBulk d + 1
 end
def uptoSmall : (H : Type) → List (DataW H) → Bool := fun _ ds => decide (uptoBulkAll ds ≤ 1048576)
def OpenSpec.upto (s : _root_.Go.ChangeSpec) : _root_.Go.OpenSpec := { _root_.Go.OpenSpec.ofChange s with cond := some uptoSmall }

/-- 'anillaw11.GrowerClears', WHERE WHAT IT READS IS OF BULK AT MOST 1048576: true; the input reads as it did. -/
def growerClearsUptoRow : OpenClaim := { program := "ytogdhkecpjndlaa", sum := "59e579cdc7a30c01e8a5abc9a30d5001d4d9db09b872d4da7199f444ab47f6dd", func := "anil/anillaw11.GrowerClears", spec := "growerClears", unfollowed := true, recurses := true, plainKeys := false, apart := false, narrowed := true }
def GrowerClearsUptoSaid : Prop := growerClearsUptoRow.holds Try.pinned (OpenSpec.upto growerClearsSpec)

/-- 'anillaw11.GrowerShares', WHERE WHAT IT READS IS OF BULK AT MOST 1048576: true; the input reads as it did. -/
def growerSharesUptoRow : OpenClaim := { program := "ytogdhkecpjndlaa", sum := "59e579cdc7a30c01e8a5abc9a30d5001d4d9db09b872d4da7199f444ab47f6dd", func := "anil/anillaw11.GrowerShares", spec := "growerShares", unfollowed := true, recurses := true, plainKeys := false, apart := false, narrowed := true }
def GrowerSharesUptoSaid : Prop := growerSharesUptoRow.holds Try.pinned (OpenSpec.upto growerSharesSpec)

/-- 'anillaw11.GrowerLeast', WHERE WHAT IT READS IS OF BULK AT MOST 1048576: true; the input reads as it did. -/
def growerLeastUptoRow : OpenClaim := { program := "ytogdhkecpjndlaa", sum := "59e579cdc7a30c01e8a5abc9a30d5001d4d9db09b872d4da7199f444ab47f6dd", func := "anil/anillaw11.GrowerLeast", spec := "growerLeast", unfollowed := true, recurses := true, plainKeys := false, apart := false, narrowed := true }
def GrowerLeastUptoSaid : Prop := growerLeastUptoRow.holds Try.pinned (OpenSpec.upto growerLeastSpec)

/-- 'anillaw11.GrowerOut', WHERE WHAT IT READS IS OF BULK AT MOST 1048576: true; the input reads as it did. -/
def growerOutUptoRow : OpenClaim := { program := "ytogdhkecpjndlaa", sum := "59e579cdc7a30c01e8a5abc9a30d5001d4d9db09b872d4da7199f444ab47f6dd", func := "anil/anillaw11.GrowerOut", spec := "growerOut", unfollowed := true, recurses := true, plainKeys := false, apart := false, narrowed := true }
def GrowerOutUptoSaid : Prop := growerOutUptoRow.holds Try.pinned (OpenSpec.upto growerOutSpec)

/-- 'anillaw11.GrowerFirst', WHERE WHAT IT READS IS OF BULK AT MOST 1048576: true; the input reads as it did. -/
def growerFirstUptoRow : OpenClaim := { program := "ytogdhkecpjndlaa", sum := "59e579cdc7a30c01e8a5abc9a30d5001d4d9db09b872d4da7199f444ab47f6dd", func := "anil/anillaw11.GrowerFirst", spec := "growerFirst", unfollowed := true, recurses := true, plainKeys := false, apart := false, narrowed := true }
def GrowerFirstUptoSaid : Prop := growerFirstUptoRow.holds Try.pinned (OpenSpec.upto growerFirstSpec)

/-- 'anillaw11.GrowerCoin', WHERE WHAT IT READS IS OF BULK AT MOST 1048576: true; the input reads as it did. -/
def growerCoinUptoRow : OpenClaim := { program := "ytogdhkecpjndlaa", sum := "59e579cdc7a30c01e8a5abc9a30d5001d4d9db09b872d4da7199f444ab47f6dd", func := "anil/anillaw11.GrowerCoin", spec := "growerCoin", unfollowed := true, recurses := true, plainKeys := false, apart := false, narrowed := true }
def GrowerCoinUptoSaid : Prop := growerCoinUptoRow.holds Try.pinned (OpenSpec.upto growerCoinSpec)

/-- 'anillaw11.GrowerTruth', WHERE WHAT IT READS IS OF BULK AT MOST 1048576: true; the input reads as it did. -/
def growerTruthUptoRow : OpenClaim := { program := "ytogdhkecpjndlaa", sum := "59e579cdc7a30c01e8a5abc9a30d5001d4d9db09b872d4da7199f444ab47f6dd", func := "anil/anillaw11.GrowerTruth", spec := "growerTruth", unfollowed := true, recurses := true, plainKeys := false, apart := false, narrowed := true }
def GrowerTruthUptoSaid : Prop := growerTruthUptoRow.holds Try.pinned (OpenSpec.upto growerTruthSpec)

/-- 'anillaw11.GrowerFull', WHERE WHAT IT READS IS OF BULK AT MOST 1048576: true; the input reads as it did. -/
def growerFullUptoRow : OpenClaim := { program := "ytogdhkecpjndlaa", sum := "59e579cdc7a30c01e8a5abc9a30d5001d4d9db09b872d4da7199f444ab47f6dd", func := "anil/anillaw11.GrowerFull", spec := "growerFull", unfollowed := true, recurses := true, plainKeys := false, apart := false, narrowed := true }
def GrowerFullUptoSaid : Prop := growerFullUptoRow.holds Try.pinned (OpenSpec.upto growerFullSpec)

/-- 'anillaw11.GrowerStruck', WHERE WHAT IT READS IS OF BULK AT MOST 1048576: true; the input reads as it did. -/
def growerStruckUptoRow : OpenClaim := { program := "ytogdhkecpjndlaa", sum := "59e579cdc7a30c01e8a5abc9a30d5001d4d9db09b872d4da7199f444ab47f6dd", func := "anil/anillaw11.GrowerStruck", spec := "growerStruck", unfollowed := true, recurses := true, plainKeys := false, apart := false, narrowed := true }
def GrowerStruckUptoSaid : Prop := growerStruckUptoRow.holds Try.pinned (OpenSpec.upto growerStruckSpec)

/-- 'anillaw11.GrowerCounted', WHERE WHAT IT READS IS OF BULK AT MOST 1048576: true; the input reads as it did. -/
def growerCountedUptoRow : OpenClaim := { program := "ytogdhkecpjndlaa", sum := "59e579cdc7a30c01e8a5abc9a30d5001d4d9db09b872d4da7199f444ab47f6dd", func := "anil/anillaw11.GrowerCounted", spec := "growerCounted", unfollowed := true, recurses := true, plainKeys := false, apart := false, narrowed := true }
def GrowerCountedUptoSaid : Prop := growerCountedUptoRow.holds Try.pinned (OpenSpec.upto growerCountedSpec)

/-- 'anillaw11.GrowerLeft', WHERE WHAT IT READS IS OF BULK AT MOST 1048576: true; the input reads as it did. -/
def growerLeftUptoRow : OpenClaim := { program := "ytogdhkecpjndlaa", sum := "59e579cdc7a30c01e8a5abc9a30d5001d4d9db09b872d4da7199f444ab47f6dd", func := "anil/anillaw11.GrowerLeft", spec := "growerLeft", unfollowed := true, recurses := true, plainKeys := false, apart := false, narrowed := true }
def GrowerLeftUptoSaid : Prop := growerLeftUptoRow.holds Try.pinned (OpenSpec.upto growerLeftSpec)

/-- 'anillaw11.GrowerPlays', WHERE WHAT IT READS IS OF BULK AT MOST 1048576: true; the input reads as it did. -/
def growerPlaysUptoRow : OpenClaim := { program := "ytogdhkecpjndlaa", sum := "59e579cdc7a30c01e8a5abc9a30d5001d4d9db09b872d4da7199f444ab47f6dd", func := "anil/anillaw11.GrowerPlays", spec := "growerPlays", unfollowed := true, recurses := true, plainKeys := false, apart := false, narrowed := true }
def GrowerPlaysUptoSaid : Prop := growerPlaysUptoRow.holds Try.pinned (OpenSpec.upto growerPlaysSpec)

/-- 'anillaw11.GrowerBounds', WHERE WHAT IT READS IS OF BULK AT MOST 1048576: true; the input reads as it did. -/
def growerBoundsUptoRow : OpenClaim := { program := "ytogdhkecpjndlaa", sum := "59e579cdc7a30c01e8a5abc9a30d5001d4d9db09b872d4da7199f444ab47f6dd", func := "anil/anillaw11.GrowerBounds", spec := "growerBounds", unfollowed := true, recurses := true, plainKeys := false, apart := false, narrowed := true }
def GrowerBoundsUptoSaid : Prop := growerBoundsUptoRow.holds Try.pinned (OpenSpec.upto growerBoundsSpec)

/-- 'anillaw11.GrowerEnds', WHERE WHAT IT READS IS OF BULK AT MOST 1048576: true; the input reads as it did. -/
def growerEndsUptoRow : OpenClaim := { program := "ytogdhkecpjndlaa", sum := "59e579cdc7a30c01e8a5abc9a30d5001d4d9db09b872d4da7199f444ab47f6dd", func := "anil/anillaw11.GrowerEnds", spec := "growerEnds", unfollowed := true, recurses := true, plainKeys := false, apart := false, narrowed := true }
def GrowerEndsUptoSaid : Prop := growerEndsUptoRow.holds Try.pinned (OpenSpec.upto growerEndsSpec)

/-- 'anillaw11.GrowerAdvance', WHERE WHAT IT READS IS OF BULK AT MOST 1048576: true; the input reads as it did. -/
def growerAdvanceUptoRow : OpenClaim := { program := "ytogdhkecpjndlaa", sum := "59e579cdc7a30c01e8a5abc9a30d5001d4d9db09b872d4da7199f444ab47f6dd", func := "anil/anillaw11.GrowerAdvance", spec := "growerAdvance", unfollowed := true, recurses := true, plainKeys := false, apart := false, narrowed := true }
def GrowerAdvanceUptoSaid : Prop := growerAdvanceUptoRow.holds Try.pinned (OpenSpec.upto growerAdvanceSpec)

/-- 'anillaw11.GrowerMore', WHERE WHAT IT READS IS OF BULK AT MOST 1048576: true; the input reads as it did. -/
def growerMoreUptoRow : OpenClaim := { program := "ytogdhkecpjndlaa", sum := "59e579cdc7a30c01e8a5abc9a30d5001d4d9db09b872d4da7199f444ab47f6dd", func := "anil/anillaw11.GrowerMore", spec := "growerMore", unfollowed := true, recurses := true, plainKeys := false, apart := false, narrowed := true }
def GrowerMoreUptoSaid : Prop := growerMoreUptoRow.holds Try.pinned (OpenSpec.upto growerMoreSpec)

/-- 'anillaw11.GrowerWider', WHERE WHAT IT READS IS OF BULK AT MOST 1048576: true; the input reads as it did. -/
def growerWiderUptoRow : OpenClaim := { program := "ytogdhkecpjndlaa", sum := "59e579cdc7a30c01e8a5abc9a30d5001d4d9db09b872d4da7199f444ab47f6dd", func := "anil/anillaw11.GrowerWider", spec := "growerWider", unfollowed := true, recurses := true, plainKeys := false, apart := false, narrowed := true }
def GrowerWiderUptoSaid : Prop := growerWiderUptoRow.holds Try.pinned (OpenSpec.upto growerWiderSpec)

/-- 'anillaw11.GrowerLeaves', WHERE WHAT IT READS IS OF BULK AT MOST 1048576: true; the input reads as it did. -/
def growerLeavesUptoRow : OpenClaim := { program := "ytogdhkecpjndlaa", sum := "59e579cdc7a30c01e8a5abc9a30d5001d4d9db09b872d4da7199f444ab47f6dd", func := "anil/anillaw11.GrowerLeaves", spec := "growerLeaves", unfollowed := true, recurses := true, plainKeys := false, apart := false, narrowed := true }
def GrowerLeavesUptoSaid : Prop := growerLeavesUptoRow.holds Try.pinned (OpenSpec.upto growerLeavesSpec)

end Rows
end Go.Proofs.Ytogdhkecpjndlaa
