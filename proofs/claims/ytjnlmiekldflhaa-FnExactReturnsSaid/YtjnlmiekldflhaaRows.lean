/-
  NARROWER THAN 'FOR EVERY INPUT', by the rows' own cells (each row's printed sentence says how): FnExactMoved: loops · FnExactNamesOf: loops · FnExactInLoop: loops · FnExactReturns: loops · FnExactNextOf: loops · FnExactKeepOf: loops · FnExactAheadOf: loops · FnExactLiveIn: loops · FnExactReachIn: loops · FnExactCallsOf: loops · FnExactSpawnsOf: loops · FnExactSitesOf: loops.
  DERIVED. THE GIVEN ROWS OF THIS SEAT. 12 by the template 'for every input the law returns true; each argument reads behind the call as it read before'; 0 by the template 'total and deterministic' (their statements: YtjnlmiekldflhaaTotals.lean).
  GIVEN WITH THE SEED: the statements are not yours to turn. If you find one false, say at which input.
  Laid BY PROGRAM, IN A SANDBOX (cutbox-rows.mjs): the forced cells as the released guide's own fill.sh prints them over the translation 4cb41189d6e82038… (all of the seat's roots in one cut). By AI agents, Wed Nov 11 2026. No macro, syntax, notation, axiom, sorry.
-/
import Derived.Test.YtjnlmiekldflhaaChecked
import GoSem.Claim
import GoSem.ClaimJoined
import GoSem.ClaimMapViews
import Derived.JoinedTies
import Derived.KernelRfl
namespace Go.Proofs.Ytjnlmiekldflhaa
/- THE CELL 'sum', in the pinned program and in every row, IS THE sha256 OF THE DUMP (.gsa) THAT YtjnlmiekldflhaaProg.lean LOADS. Nothing in Lean hashes anything: it is a label: what it is worth is what the hold of that sum in a sandbox is worth. -/
noncomputable def Try.pinned : Pinned := { name := "ytjnlmiekldflhaa", sum := "4cb41189d6e82038f29f8379f8b89e0096ca94ea216ebe2737ff01a2d4d325ed", checked := Try.checked }
namespace Rows
def none {H : Type} : Left H := { results := [], args := [] }

/-- 'laws.FnExactMoved': WHATEVER THE INPUT: true; the input reads as it did. -/
def fnExactMovedSpec : ChangeSpec := { name := "fnExactMoved", fn := fun _ => fun
  | [d1, d2, d3, d4] => { results := [.lit (.bool true)], args := [d1, d2, d3, d4] }
  | _ => none }
def fnExactMovedRow : OpenClaim := { program := "ytjnlmiekldflhaa", sum := "4cb41189d6e82038f29f8379f8b89e0096ca94ea216ebe2737ff01a2d4d325ed", func := "loop.example/g00966/laws.FnExactMoved", spec := "fnExactMoved", recurses := true, loops := true, apart := false }
def FnExactMovedSaid : Prop := fnExactMovedRow.holds Try.pinned (OpenSpec.ofChange fnExactMovedSpec)

/-- ITS FALSE NEIGHBOUR: 'it returns false'. Refute it at one input. -/
def fnExactMovedWrong : ChangeSpec := { name := "fnExactMoved", fn := fun _ => fun
  | [d1, d2, d3, d4] => { results := [.lit (.bool false)], args := [d1, d2, d3, d4] }
  | _ => none }
def FnExactMovedWrongFalsely : Prop := fnExactMovedRow.holds Try.pinned (OpenSpec.ofChange fnExactMovedWrong)

/-- 'laws.FnExactNamesOf': WHATEVER THE INPUT: true; the input reads as it did. -/
def fnExactNamesOfSpec : ChangeSpec := { name := "fnExactNamesOf", fn := fun _ => fun
  | [d1, d2] => { results := [.lit (.bool true)], args := [d1, d2] }
  | _ => none }
def fnExactNamesOfRow : OpenClaim := { program := "ytjnlmiekldflhaa", sum := "4cb41189d6e82038f29f8379f8b89e0096ca94ea216ebe2737ff01a2d4d325ed", func := "loop.example/g00966/laws.FnExactNamesOf", spec := "fnExactNamesOf", recurses := true, loops := true, apart := false }
def FnExactNamesOfSaid : Prop := fnExactNamesOfRow.holds Try.pinned (OpenSpec.ofChange fnExactNamesOfSpec)

/-- ITS FALSE NEIGHBOUR: 'it returns false'. Refute it at one input. -/
def fnExactNamesOfWrong : ChangeSpec := { name := "fnExactNamesOf", fn := fun _ => fun
  | [d1, d2] => { results := [.lit (.bool false)], args := [d1, d2] }
  | _ => none }
def FnExactNamesOfWrongFalsely : Prop := fnExactNamesOfRow.holds Try.pinned (OpenSpec.ofChange fnExactNamesOfWrong)

/-- 'laws.FnExactInLoop': WHATEVER THE INPUT: true; the input reads as it did. -/
def fnExactInLoopSpec : ChangeSpec := { name := "fnExactInLoop", fn := fun _ => fun
  | [d1, d2] => { results := [.lit (.bool true)], args := [d1, d2] }
  | _ => none }
def fnExactInLoopRow : OpenClaim := { program := "ytjnlmiekldflhaa", sum := "4cb41189d6e82038f29f8379f8b89e0096ca94ea216ebe2737ff01a2d4d325ed", func := "loop.example/g00966/laws.FnExactInLoop", spec := "fnExactInLoop", recurses := true, loops := true, apart := false }
def FnExactInLoopSaid : Prop := fnExactInLoopRow.holds Try.pinned (OpenSpec.ofChange fnExactInLoopSpec)

/-- ITS FALSE NEIGHBOUR: 'it returns false'. Refute it at one input. -/
def fnExactInLoopWrong : ChangeSpec := { name := "fnExactInLoop", fn := fun _ => fun
  | [d1, d2] => { results := [.lit (.bool false)], args := [d1, d2] }
  | _ => none }
def FnExactInLoopWrongFalsely : Prop := fnExactInLoopRow.holds Try.pinned (OpenSpec.ofChange fnExactInLoopWrong)

/-- 'laws.FnExactReturns': WHATEVER THE INPUT: true; the input reads as it did. -/
def fnExactReturnsSpec : ChangeSpec := { name := "fnExactReturns", fn := fun _ => fun
  | [d1, d2] => { results := [.lit (.bool true)], args := [d1, d2] }
  | _ => none }
def fnExactReturnsRow : OpenClaim := { program := "ytjnlmiekldflhaa", sum := "4cb41189d6e82038f29f8379f8b89e0096ca94ea216ebe2737ff01a2d4d325ed", func := "loop.example/g00966/laws.FnExactReturns", spec := "fnExactReturns", recurses := true, loops := true, apart := false }
def FnExactReturnsSaid : Prop := fnExactReturnsRow.holds Try.pinned (OpenSpec.ofChange fnExactReturnsSpec)

/-- ITS FALSE NEIGHBOUR: 'it returns false'. Refute it at one input. -/
def fnExactReturnsWrong : ChangeSpec := { name := "fnExactReturns", fn := fun _ => fun
  | [d1, d2] => { results := [.lit (.bool false)], args := [d1, d2] }
  | _ => none }
def FnExactReturnsWrongFalsely : Prop := fnExactReturnsRow.holds Try.pinned (OpenSpec.ofChange fnExactReturnsWrong)

/-- 'laws.FnExactNextOf': WHATEVER THE INPUT: true; the input reads as it did. -/
def fnExactNextOfSpec : ChangeSpec := { name := "fnExactNextOf", fn := fun _ => fun
  | [d1, d2] => { results := [.lit (.bool true)], args := [d1, d2] }
  | _ => none }
def fnExactNextOfRow : OpenClaim := { program := "ytjnlmiekldflhaa", sum := "4cb41189d6e82038f29f8379f8b89e0096ca94ea216ebe2737ff01a2d4d325ed", func := "loop.example/g00966/laws.FnExactNextOf", spec := "fnExactNextOf", recurses := true, loops := true, apart := false }
def FnExactNextOfSaid : Prop := fnExactNextOfRow.holds Try.pinned (OpenSpec.ofChange fnExactNextOfSpec)

/-- ITS FALSE NEIGHBOUR: 'it returns false'. Refute it at one input. -/
def fnExactNextOfWrong : ChangeSpec := { name := "fnExactNextOf", fn := fun _ => fun
  | [d1, d2] => { results := [.lit (.bool false)], args := [d1, d2] }
  | _ => none }
def FnExactNextOfWrongFalsely : Prop := fnExactNextOfRow.holds Try.pinned (OpenSpec.ofChange fnExactNextOfWrong)

/-- 'laws.FnExactKeepOf': WHATEVER THE INPUT: true; the input reads as it did. -/
def fnExactKeepOfSpec : ChangeSpec := { name := "fnExactKeepOf", fn := fun _ => fun
  | [d1, d2] => { results := [.lit (.bool true)], args := [d1, d2] }
  | _ => none }
def fnExactKeepOfRow : OpenClaim := { program := "ytjnlmiekldflhaa", sum := "4cb41189d6e82038f29f8379f8b89e0096ca94ea216ebe2737ff01a2d4d325ed", func := "loop.example/g00966/laws.FnExactKeepOf", spec := "fnExactKeepOf", recurses := true, loops := true, apart := false }
def FnExactKeepOfSaid : Prop := fnExactKeepOfRow.holds Try.pinned (OpenSpec.ofChange fnExactKeepOfSpec)

/-- ITS FALSE NEIGHBOUR: 'it returns false'. Refute it at one input. -/
def fnExactKeepOfWrong : ChangeSpec := { name := "fnExactKeepOf", fn := fun _ => fun
  | [d1, d2] => { results := [.lit (.bool false)], args := [d1, d2] }
  | _ => none }
def FnExactKeepOfWrongFalsely : Prop := fnExactKeepOfRow.holds Try.pinned (OpenSpec.ofChange fnExactKeepOfWrong)

/-- 'laws.FnExactAheadOf': WHATEVER THE INPUT: true; the input reads as it did. -/
def fnExactAheadOfSpec : ChangeSpec := { name := "fnExactAheadOf", fn := fun _ => fun
  | [d1, d2] => { results := [.lit (.bool true)], args := [d1, d2] }
  | _ => none }
def fnExactAheadOfRow : OpenClaim := { program := "ytjnlmiekldflhaa", sum := "4cb41189d6e82038f29f8379f8b89e0096ca94ea216ebe2737ff01a2d4d325ed", func := "loop.example/g00966/laws.FnExactAheadOf", spec := "fnExactAheadOf", recurses := true, loops := true, apart := false }
def FnExactAheadOfSaid : Prop := fnExactAheadOfRow.holds Try.pinned (OpenSpec.ofChange fnExactAheadOfSpec)

/-- ITS FALSE NEIGHBOUR: 'it returns false'. Refute it at one input. -/
def fnExactAheadOfWrong : ChangeSpec := { name := "fnExactAheadOf", fn := fun _ => fun
  | [d1, d2] => { results := [.lit (.bool false)], args := [d1, d2] }
  | _ => none }
def FnExactAheadOfWrongFalsely : Prop := fnExactAheadOfRow.holds Try.pinned (OpenSpec.ofChange fnExactAheadOfWrong)

/-- 'laws.FnExactLiveIn': WHATEVER THE INPUT: true; the input reads as it did. -/
def fnExactLiveInSpec : ChangeSpec := { name := "fnExactLiveIn", fn := fun _ => fun
  | [d1, d2] => { results := [.lit (.bool true)], args := [d1, d2] }
  | _ => none }
def fnExactLiveInRow : OpenClaim := { program := "ytjnlmiekldflhaa", sum := "4cb41189d6e82038f29f8379f8b89e0096ca94ea216ebe2737ff01a2d4d325ed", func := "loop.example/g00966/laws.FnExactLiveIn", spec := "fnExactLiveIn", recurses := true, loops := true, apart := false }
def FnExactLiveInSaid : Prop := fnExactLiveInRow.holds Try.pinned (OpenSpec.ofChange fnExactLiveInSpec)

/-- ITS FALSE NEIGHBOUR: 'it returns false'. Refute it at one input. -/
def fnExactLiveInWrong : ChangeSpec := { name := "fnExactLiveIn", fn := fun _ => fun
  | [d1, d2] => { results := [.lit (.bool false)], args := [d1, d2] }
  | _ => none }
def FnExactLiveInWrongFalsely : Prop := fnExactLiveInRow.holds Try.pinned (OpenSpec.ofChange fnExactLiveInWrong)

/-- 'laws.FnExactReachIn': WHATEVER THE INPUT: true; the input reads as it did. -/
def fnExactReachInSpec : ChangeSpec := { name := "fnExactReachIn", fn := fun _ => fun
  | [d1, d2] => { results := [.lit (.bool true)], args := [d1, d2] }
  | _ => none }
def fnExactReachInRow : OpenClaim := { program := "ytjnlmiekldflhaa", sum := "4cb41189d6e82038f29f8379f8b89e0096ca94ea216ebe2737ff01a2d4d325ed", func := "loop.example/g00966/laws.FnExactReachIn", spec := "fnExactReachIn", recurses := true, loops := true, apart := false }
def FnExactReachInSaid : Prop := fnExactReachInRow.holds Try.pinned (OpenSpec.ofChange fnExactReachInSpec)

/-- ITS FALSE NEIGHBOUR: 'it returns false'. Refute it at one input. -/
def fnExactReachInWrong : ChangeSpec := { name := "fnExactReachIn", fn := fun _ => fun
  | [d1, d2] => { results := [.lit (.bool false)], args := [d1, d2] }
  | _ => none }
def FnExactReachInWrongFalsely : Prop := fnExactReachInRow.holds Try.pinned (OpenSpec.ofChange fnExactReachInWrong)

/-- 'laws.FnExactCallsOf': WHATEVER THE INPUT: true; the input reads as it did. -/
def fnExactCallsOfSpec : ChangeSpec := { name := "fnExactCallsOf", fn := fun _ => fun
  | [d1, d2] => { results := [.lit (.bool true)], args := [d1, d2] }
  | _ => none }
def fnExactCallsOfRow : OpenClaim := { program := "ytjnlmiekldflhaa", sum := "4cb41189d6e82038f29f8379f8b89e0096ca94ea216ebe2737ff01a2d4d325ed", func := "loop.example/g00966/laws.FnExactCallsOf", spec := "fnExactCallsOf", recurses := true, loops := true, apart := false }
def FnExactCallsOfSaid : Prop := fnExactCallsOfRow.holds Try.pinned (OpenSpec.ofChange fnExactCallsOfSpec)

/-- ITS FALSE NEIGHBOUR: 'it returns false'. Refute it at one input. -/
def fnExactCallsOfWrong : ChangeSpec := { name := "fnExactCallsOf", fn := fun _ => fun
  | [d1, d2] => { results := [.lit (.bool false)], args := [d1, d2] }
  | _ => none }
def FnExactCallsOfWrongFalsely : Prop := fnExactCallsOfRow.holds Try.pinned (OpenSpec.ofChange fnExactCallsOfWrong)

/-- 'laws.FnExactSpawnsOf': WHATEVER THE INPUT: true; the input reads as it did. -/
def fnExactSpawnsOfSpec : ChangeSpec := { name := "fnExactSpawnsOf", fn := fun _ => fun
  | [d1, d2] => { results := [.lit (.bool true)], args := [d1, d2] }
  | _ => none }
def fnExactSpawnsOfRow : OpenClaim := { program := "ytjnlmiekldflhaa", sum := "4cb41189d6e82038f29f8379f8b89e0096ca94ea216ebe2737ff01a2d4d325ed", func := "loop.example/g00966/laws.FnExactSpawnsOf", spec := "fnExactSpawnsOf", recurses := true, loops := true, apart := false }
def FnExactSpawnsOfSaid : Prop := fnExactSpawnsOfRow.holds Try.pinned (OpenSpec.ofChange fnExactSpawnsOfSpec)

/-- ITS FALSE NEIGHBOUR: 'it returns false'. Refute it at one input. -/
def fnExactSpawnsOfWrong : ChangeSpec := { name := "fnExactSpawnsOf", fn := fun _ => fun
  | [d1, d2] => { results := [.lit (.bool false)], args := [d1, d2] }
  | _ => none }
def FnExactSpawnsOfWrongFalsely : Prop := fnExactSpawnsOfRow.holds Try.pinned (OpenSpec.ofChange fnExactSpawnsOfWrong)

/-- 'laws.FnExactSitesOf': WHATEVER THE INPUT: true; the input reads as it did. -/
def fnExactSitesOfSpec : ChangeSpec := { name := "fnExactSitesOf", fn := fun _ => fun
  | [d1, d2] => { results := [.lit (.bool true)], args := [d1, d2] }
  | _ => none }
def fnExactSitesOfRow : OpenClaim := { program := "ytjnlmiekldflhaa", sum := "4cb41189d6e82038f29f8379f8b89e0096ca94ea216ebe2737ff01a2d4d325ed", func := "loop.example/g00966/laws.FnExactSitesOf", spec := "fnExactSitesOf", recurses := true, loops := true, apart := false }
def FnExactSitesOfSaid : Prop := fnExactSitesOfRow.holds Try.pinned (OpenSpec.ofChange fnExactSitesOfSpec)

/-- ITS FALSE NEIGHBOUR: 'it returns false'. Refute it at one input. -/
def fnExactSitesOfWrong : ChangeSpec := { name := "fnExactSitesOf", fn := fun _ => fun
  | [d1, d2] => { results := [.lit (.bool false)], args := [d1, d2] }
  | _ => none }
def FnExactSitesOfWrongFalsely : Prop := fnExactSitesOfRow.holds Try.pinned (OpenSpec.ofChange fnExactSitesOfWrong)

/- THE SECOND FORM. 'bulk': how many values and letters a reading holds, each counted each time it is reached (what is shared counts as often as it is met; a slice's spare places count too). A statement '..UptoSaid' is the law's where the arguments, and the package variables that the reading takes, are together of bulk at most 1048576: NARROWER than '..Said'. Prove '..Said' where nothing that the law and all that it calls make is longer than what came in: it says more and counts as full. Else prove '..UptoSaid'. A law counts once. -/
mutual
def uptoBulk {H : Type} : DataW H → Nat
  | .lit (.string bytes) => bytes.length + 1
  | .lit _ => 1
  | .nil => 1
  | .ptr d => uptoBulk d + 1
  | .slice elems spare => uptoBulkAll elems + uptoBulkAll spare + 1
  | .agg parts => uptoBulkAll parts + 1
  | .iface _ d => uptoBulk d + 1
  | .map entries => uptoBulkEntries entries + 1
  | .held _ => 1
def uptoBulkAll {H : Type} : List (DataW H) → Nat
  | [] => 0
  | d :: r => uptoBulk d + uptoBulkAll r
def uptoBulkEntries {H : Type} : List (Lit × DataW H) → Nat
  | [] => 0
  | x :: r => uptoBulkEntry x + uptoBulkEntries r
def uptoBulkEntry {H : Type} : Lit × DataW H → Nat
  | (.string bytes, d) => bytes.length + uptoBulk d + 1
  | (_, d) => uptoBulk d + 1
 end
def uptoSmall : (H : Type) → List (DataW H) → Bool := fun _ ds => decide (uptoBulkAll ds ≤ 1048576)
def OpenSpec.upto (s : _root_.Go.ChangeSpec) : _root_.Go.OpenSpec := { _root_.Go.OpenSpec.ofChange s with cond := some uptoSmall }

/-- 'laws.FnExactMoved', WHERE WHAT IT READS IS OF BULK AT MOST 1048576: true; the input reads as it did. -/
def fnExactMovedUptoRow : OpenClaim := { program := "ytjnlmiekldflhaa", sum := "4cb41189d6e82038f29f8379f8b89e0096ca94ea216ebe2737ff01a2d4d325ed", func := "loop.example/g00966/laws.FnExactMoved", spec := "fnExactMoved", recurses := true, loops := true, apart := false, narrowed := true }
def FnExactMovedUptoSaid : Prop := fnExactMovedUptoRow.holds Try.pinned (OpenSpec.upto fnExactMovedSpec)

/-- 'laws.FnExactNamesOf', WHERE WHAT IT READS IS OF BULK AT MOST 1048576: true; the input reads as it did. -/
def fnExactNamesOfUptoRow : OpenClaim := { program := "ytjnlmiekldflhaa", sum := "4cb41189d6e82038f29f8379f8b89e0096ca94ea216ebe2737ff01a2d4d325ed", func := "loop.example/g00966/laws.FnExactNamesOf", spec := "fnExactNamesOf", recurses := true, loops := true, apart := false, narrowed := true }
def FnExactNamesOfUptoSaid : Prop := fnExactNamesOfUptoRow.holds Try.pinned (OpenSpec.upto fnExactNamesOfSpec)

/-- 'laws.FnExactInLoop', WHERE WHAT IT READS IS OF BULK AT MOST 1048576: true; the input reads as it did. -/
def fnExactInLoopUptoRow : OpenClaim := { program := "ytjnlmiekldflhaa", sum := "4cb41189d6e82038f29f8379f8b89e0096ca94ea216ebe2737ff01a2d4d325ed", func := "loop.example/g00966/laws.FnExactInLoop", spec := "fnExactInLoop", recurses := true, loops := true, apart := false, narrowed := true }
def FnExactInLoopUptoSaid : Prop := fnExactInLoopUptoRow.holds Try.pinned (OpenSpec.upto fnExactInLoopSpec)

/-- 'laws.FnExactReturns', WHERE WHAT IT READS IS OF BULK AT MOST 1048576: true; the input reads as it did. -/
def fnExactReturnsUptoRow : OpenClaim := { program := "ytjnlmiekldflhaa", sum := "4cb41189d6e82038f29f8379f8b89e0096ca94ea216ebe2737ff01a2d4d325ed", func := "loop.example/g00966/laws.FnExactReturns", spec := "fnExactReturns", recurses := true, loops := true, apart := false, narrowed := true }
def FnExactReturnsUptoSaid : Prop := fnExactReturnsUptoRow.holds Try.pinned (OpenSpec.upto fnExactReturnsSpec)

/-- 'laws.FnExactNextOf', WHERE WHAT IT READS IS OF BULK AT MOST 1048576: true; the input reads as it did. -/
def fnExactNextOfUptoRow : OpenClaim := { program := "ytjnlmiekldflhaa", sum := "4cb41189d6e82038f29f8379f8b89e0096ca94ea216ebe2737ff01a2d4d325ed", func := "loop.example/g00966/laws.FnExactNextOf", spec := "fnExactNextOf", recurses := true, loops := true, apart := false, narrowed := true }
def FnExactNextOfUptoSaid : Prop := fnExactNextOfUptoRow.holds Try.pinned (OpenSpec.upto fnExactNextOfSpec)

/-- 'laws.FnExactKeepOf', WHERE WHAT IT READS IS OF BULK AT MOST 1048576: true; the input reads as it did. -/
def fnExactKeepOfUptoRow : OpenClaim := { program := "ytjnlmiekldflhaa", sum := "4cb41189d6e82038f29f8379f8b89e0096ca94ea216ebe2737ff01a2d4d325ed", func := "loop.example/g00966/laws.FnExactKeepOf", spec := "fnExactKeepOf", recurses := true, loops := true, apart := false, narrowed := true }
def FnExactKeepOfUptoSaid : Prop := fnExactKeepOfUptoRow.holds Try.pinned (OpenSpec.upto fnExactKeepOfSpec)

/-- 'laws.FnExactAheadOf', WHERE WHAT IT READS IS OF BULK AT MOST 1048576: true; the input reads as it did. -/
def fnExactAheadOfUptoRow : OpenClaim := { program := "ytjnlmiekldflhaa", sum := "4cb41189d6e82038f29f8379f8b89e0096ca94ea216ebe2737ff01a2d4d325ed", func := "loop.example/g00966/laws.FnExactAheadOf", spec := "fnExactAheadOf", recurses := true, loops := true, apart := false, narrowed := true }
def FnExactAheadOfUptoSaid : Prop := fnExactAheadOfUptoRow.holds Try.pinned (OpenSpec.upto fnExactAheadOfSpec)

/-- 'laws.FnExactLiveIn', WHERE WHAT IT READS IS OF BULK AT MOST 1048576: true; the input reads as it did. -/
def fnExactLiveInUptoRow : OpenClaim := { program := "ytjnlmiekldflhaa", sum := "4cb41189d6e82038f29f8379f8b89e0096ca94ea216ebe2737ff01a2d4d325ed", func := "loop.example/g00966/laws.FnExactLiveIn", spec := "fnExactLiveIn", recurses := true, loops := true, apart := false, narrowed := true }
def FnExactLiveInUptoSaid : Prop := fnExactLiveInUptoRow.holds Try.pinned (OpenSpec.upto fnExactLiveInSpec)

/-- 'laws.FnExactReachIn', WHERE WHAT IT READS IS OF BULK AT MOST 1048576: true; the input reads as it did. -/
def fnExactReachInUptoRow : OpenClaim := { program := "ytjnlmiekldflhaa", sum := "4cb41189d6e82038f29f8379f8b89e0096ca94ea216ebe2737ff01a2d4d325ed", func := "loop.example/g00966/laws.FnExactReachIn", spec := "fnExactReachIn", recurses := true, loops := true, apart := false, narrowed := true }
def FnExactReachInUptoSaid : Prop := fnExactReachInUptoRow.holds Try.pinned (OpenSpec.upto fnExactReachInSpec)

/-- 'laws.FnExactCallsOf', WHERE WHAT IT READS IS OF BULK AT MOST 1048576: true; the input reads as it did. -/
def fnExactCallsOfUptoRow : OpenClaim := { program := "ytjnlmiekldflhaa", sum := "4cb41189d6e82038f29f8379f8b89e0096ca94ea216ebe2737ff01a2d4d325ed", func := "loop.example/g00966/laws.FnExactCallsOf", spec := "fnExactCallsOf", recurses := true, loops := true, apart := false, narrowed := true }
def FnExactCallsOfUptoSaid : Prop := fnExactCallsOfUptoRow.holds Try.pinned (OpenSpec.upto fnExactCallsOfSpec)

/-- 'laws.FnExactSpawnsOf', WHERE WHAT IT READS IS OF BULK AT MOST 1048576: true; the input reads as it did. -/
def fnExactSpawnsOfUptoRow : OpenClaim := { program := "ytjnlmiekldflhaa", sum := "4cb41189d6e82038f29f8379f8b89e0096ca94ea216ebe2737ff01a2d4d325ed", func := "loop.example/g00966/laws.FnExactSpawnsOf", spec := "fnExactSpawnsOf", recurses := true, loops := true, apart := false, narrowed := true }
def FnExactSpawnsOfUptoSaid : Prop := fnExactSpawnsOfUptoRow.holds Try.pinned (OpenSpec.upto fnExactSpawnsOfSpec)

/-- 'laws.FnExactSitesOf', WHERE WHAT IT READS IS OF BULK AT MOST 1048576: true; the input reads as it did. -/
def fnExactSitesOfUptoRow : OpenClaim := { program := "ytjnlmiekldflhaa", sum := "4cb41189d6e82038f29f8379f8b89e0096ca94ea216ebe2737ff01a2d4d325ed", func := "loop.example/g00966/laws.FnExactSitesOf", spec := "fnExactSitesOf", recurses := true, loops := true, apart := false, narrowed := true }
def FnExactSitesOfUptoSaid : Prop := fnExactSitesOfUptoRow.holds Try.pinned (OpenSpec.upto fnExactSitesOfSpec)

end Rows
end Go.Proofs.Ytjnlmiekldflhaa
