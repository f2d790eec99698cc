/-
  NARROWER THAN 'FOR EVERY INPUT', by the rows' own cells (each row's printed sentence says how): FnExactNamesOf: loops · FnExactCallsFrom: loops · FnExactCallersOf: loops · FnExactRootsOf: loops · FnExactUsedIn: loops · FnExactSingle: loops · FnExactRootsAt: loops · FnExactMayAt: loops · FnExactStartsOf: loops · FnExactMetIn: loops · FnExactBeside: loops · FnExactMayOf: loops.
  DERIVED. THE GIVEN ROWS OF THIS SEAT. 12 by the template 'for every input the law returns true; each argument reads behind the call as it read before'; 0 by the template 'total and deterministic' (their statements: YtimnjiicdjfjfaaTotals.lean).
  GIVEN WITH THE SEED: the statements are not yours to turn. If you find one false, say at which input.
  Laid BY PROGRAM, IN A SANDBOX (cutbox-rows.mjs): the forced cells as the released guide's own fill.sh prints them over the translation 504632383262e985… (all of the seat's roots in one cut). By AI agents, Wed Nov 11 2026. No macro, syntax, notation, axiom, sorry.
-/
import Derived.Test.YtimnjiicdjfjfaaChecked
import GoSem.Claim
import GoSem.ClaimJoined
import GoSem.ClaimMapViews
import Derived.JoinedTies
import Derived.KernelRfl
namespace Go.Proofs.Ytimnjiicdjfjfaa
/- THE CELL 'sum', in the pinned program and in every row, IS THE sha256 OF THE DUMP (.gsa) THAT YtimnjiicdjfjfaaProg.lean LOADS. Nothing in Lean hashes anything: it is a label: what it is worth is what the hold of that sum in a sandbox is worth. -/
noncomputable def Try.pinned : Pinned := { name := "ytimnjiicdjfjfaa", sum := "504632383262e9854c1f8045e51b7bf7d86ff1b4d42e53d5e01b1e8ac4e76cb2", checked := Try.checked }
namespace Rows
def none {H : Type} : Left H := { results := [], args := [] }

/-- 'laws.FnExactNamesOf': WHATEVER THE INPUT: true; the input reads as it did. -/
def fnExactNamesOfSpec : ChangeSpec := { name := "fnExactNamesOf", fn := fun _ => fun
  | [d1, d2] => { results := [.lit (.bool true)], args := [d1, d2] }
  | _ => none }
def fnExactNamesOfRow : OpenClaim := { program := "ytimnjiicdjfjfaa", sum := "504632383262e9854c1f8045e51b7bf7d86ff1b4d42e53d5e01b1e8ac4e76cb2", func := "loop.example/g00966/laws.FnExactNamesOf", spec := "fnExactNamesOf", recurses := true, loops := true, apart := false }
def FnExactNamesOfSaid : Prop := fnExactNamesOfRow.holds Try.pinned (OpenSpec.ofChange fnExactNamesOfSpec)

/-- ITS FALSE NEIGHBOUR: 'it returns false'. Refute it at one input. -/
def fnExactNamesOfWrong : ChangeSpec := { name := "fnExactNamesOf", fn := fun _ => fun
  | [d1, d2] => { results := [.lit (.bool false)], args := [d1, d2] }
  | _ => none }
def FnExactNamesOfWrongFalsely : Prop := fnExactNamesOfRow.holds Try.pinned (OpenSpec.ofChange fnExactNamesOfWrong)

/-- 'laws.FnExactCallsFrom': WHATEVER THE INPUT: true; the input reads as it did. -/
def fnExactCallsFromSpec : ChangeSpec := { name := "fnExactCallsFrom", fn := fun _ => fun
  | [d1, d2] => { results := [.lit (.bool true)], args := [d1, d2] }
  | _ => none }
def fnExactCallsFromRow : OpenClaim := { program := "ytimnjiicdjfjfaa", sum := "504632383262e9854c1f8045e51b7bf7d86ff1b4d42e53d5e01b1e8ac4e76cb2", func := "loop.example/g00966/laws.FnExactCallsFrom", spec := "fnExactCallsFrom", recurses := true, loops := true, apart := false }
def FnExactCallsFromSaid : Prop := fnExactCallsFromRow.holds Try.pinned (OpenSpec.ofChange fnExactCallsFromSpec)

/-- ITS FALSE NEIGHBOUR: 'it returns false'. Refute it at one input. -/
def fnExactCallsFromWrong : ChangeSpec := { name := "fnExactCallsFrom", fn := fun _ => fun
  | [d1, d2] => { results := [.lit (.bool false)], args := [d1, d2] }
  | _ => none }
def FnExactCallsFromWrongFalsely : Prop := fnExactCallsFromRow.holds Try.pinned (OpenSpec.ofChange fnExactCallsFromWrong)

/-- 'laws.FnExactCallersOf': WHATEVER THE INPUT: true; the input reads as it did. -/
def fnExactCallersOfSpec : ChangeSpec := { name := "fnExactCallersOf", fn := fun _ => fun
  | [d1, d2] => { results := [.lit (.bool true)], args := [d1, d2] }
  | _ => none }
def fnExactCallersOfRow : OpenClaim := { program := "ytimnjiicdjfjfaa", sum := "504632383262e9854c1f8045e51b7bf7d86ff1b4d42e53d5e01b1e8ac4e76cb2", func := "loop.example/g00966/laws.FnExactCallersOf", spec := "fnExactCallersOf", recurses := true, loops := true, apart := false }
def FnExactCallersOfSaid : Prop := fnExactCallersOfRow.holds Try.pinned (OpenSpec.ofChange fnExactCallersOfSpec)

/-- ITS FALSE NEIGHBOUR: 'it returns false'. Refute it at one input. -/
def fnExactCallersOfWrong : ChangeSpec := { name := "fnExactCallersOf", fn := fun _ => fun
  | [d1, d2] => { results := [.lit (.bool false)], args := [d1, d2] }
  | _ => none }
def FnExactCallersOfWrongFalsely : Prop := fnExactCallersOfRow.holds Try.pinned (OpenSpec.ofChange fnExactCallersOfWrong)

/-- 'laws.FnExactRootsOf': WHATEVER THE INPUT: true; the input reads as it did. -/
def fnExactRootsOfSpec : ChangeSpec := { name := "fnExactRootsOf", fn := fun _ => fun
  | [d] => { results := [.lit (.bool true)], args := [d] }
  | _ => none }
def fnExactRootsOfRow : OpenClaim := { program := "ytimnjiicdjfjfaa", sum := "504632383262e9854c1f8045e51b7bf7d86ff1b4d42e53d5e01b1e8ac4e76cb2", func := "loop.example/g00966/laws.FnExactRootsOf", spec := "fnExactRootsOf", recurses := true, loops := true, apart := false }
def FnExactRootsOfSaid : Prop := fnExactRootsOfRow.holds Try.pinned (OpenSpec.ofChange fnExactRootsOfSpec)

/-- ITS FALSE NEIGHBOUR: 'it returns false'. Refute it at one input. -/
def fnExactRootsOfWrong : ChangeSpec := { name := "fnExactRootsOf", fn := fun _ => fun
  | [d] => { results := [.lit (.bool false)], args := [d] }
  | _ => none }
def FnExactRootsOfWrongFalsely : Prop := fnExactRootsOfRow.holds Try.pinned (OpenSpec.ofChange fnExactRootsOfWrong)

/-- 'laws.FnExactUsedIn': WHATEVER THE INPUT: true; the input reads as it did. -/
def fnExactUsedInSpec : ChangeSpec := { name := "fnExactUsedIn", fn := fun _ => fun
  | [d] => { results := [.lit (.bool true)], args := [d] }
  | _ => none }
def fnExactUsedInRow : OpenClaim := { program := "ytimnjiicdjfjfaa", sum := "504632383262e9854c1f8045e51b7bf7d86ff1b4d42e53d5e01b1e8ac4e76cb2", func := "loop.example/g00966/laws.FnExactUsedIn", spec := "fnExactUsedIn", recurses := true, loops := true, apart := false }
def FnExactUsedInSaid : Prop := fnExactUsedInRow.holds Try.pinned (OpenSpec.ofChange fnExactUsedInSpec)

/-- ITS FALSE NEIGHBOUR: 'it returns false'. Refute it at one input. -/
def fnExactUsedInWrong : ChangeSpec := { name := "fnExactUsedIn", fn := fun _ => fun
  | [d] => { results := [.lit (.bool false)], args := [d] }
  | _ => none }
def FnExactUsedInWrongFalsely : Prop := fnExactUsedInRow.holds Try.pinned (OpenSpec.ofChange fnExactUsedInWrong)

/-- 'laws.FnExactSingle': WHATEVER THE INPUT: true; the input reads as it did. -/
def fnExactSingleSpec : ChangeSpec := { name := "fnExactSingle", fn := fun _ => fun
  | [d1, d2] => { results := [.lit (.bool true)], args := [d1, d2] }
  | _ => none }
def fnExactSingleRow : OpenClaim := { program := "ytimnjiicdjfjfaa", sum := "504632383262e9854c1f8045e51b7bf7d86ff1b4d42e53d5e01b1e8ac4e76cb2", func := "loop.example/g00966/laws.FnExactSingle", spec := "fnExactSingle", recurses := true, loops := true, apart := false }
def FnExactSingleSaid : Prop := fnExactSingleRow.holds Try.pinned (OpenSpec.ofChange fnExactSingleSpec)

/-- ITS FALSE NEIGHBOUR: 'it returns false'. Refute it at one input. -/
def fnExactSingleWrong : ChangeSpec := { name := "fnExactSingle", fn := fun _ => fun
  | [d1, d2] => { results := [.lit (.bool false)], args := [d1, d2] }
  | _ => none }
def FnExactSingleWrongFalsely : Prop := fnExactSingleRow.holds Try.pinned (OpenSpec.ofChange fnExactSingleWrong)

/-- 'laws.FnExactRootsAt': WHATEVER THE INPUT: true; the input reads as it did. -/
def fnExactRootsAtSpec : ChangeSpec := { name := "fnExactRootsAt", fn := fun _ => fun
  | [d1, d2] => { results := [.lit (.bool true)], args := [d1, d2] }
  | _ => none }
def fnExactRootsAtRow : OpenClaim := { program := "ytimnjiicdjfjfaa", sum := "504632383262e9854c1f8045e51b7bf7d86ff1b4d42e53d5e01b1e8ac4e76cb2", func := "loop.example/g00966/laws.FnExactRootsAt", spec := "fnExactRootsAt", recurses := true, loops := true, apart := false }
def FnExactRootsAtSaid : Prop := fnExactRootsAtRow.holds Try.pinned (OpenSpec.ofChange fnExactRootsAtSpec)

/-- ITS FALSE NEIGHBOUR: 'it returns false'. Refute it at one input. -/
def fnExactRootsAtWrong : ChangeSpec := { name := "fnExactRootsAt", fn := fun _ => fun
  | [d1, d2] => { results := [.lit (.bool false)], args := [d1, d2] }
  | _ => none }
def FnExactRootsAtWrongFalsely : Prop := fnExactRootsAtRow.holds Try.pinned (OpenSpec.ofChange fnExactRootsAtWrong)

/-- 'laws.FnExactMayAt': WHATEVER THE INPUT: true; the input reads as it did. -/
def fnExactMayAtSpec : ChangeSpec := { name := "fnExactMayAt", fn := fun _ => fun
  | [d1, d2] => { results := [.lit (.bool true)], args := [d1, d2] }
  | _ => none }
def fnExactMayAtRow : OpenClaim := { program := "ytimnjiicdjfjfaa", sum := "504632383262e9854c1f8045e51b7bf7d86ff1b4d42e53d5e01b1e8ac4e76cb2", func := "loop.example/g00966/laws.FnExactMayAt", spec := "fnExactMayAt", unfollowed := true, recurses := true, loops := true, apart := false }
def FnExactMayAtSaid : Prop := fnExactMayAtRow.holds Try.pinned (OpenSpec.ofChange fnExactMayAtSpec)

/-- ITS FALSE NEIGHBOUR: 'it returns false'. Refute it at one input. -/
def fnExactMayAtWrong : ChangeSpec := { name := "fnExactMayAt", fn := fun _ => fun
  | [d1, d2] => { results := [.lit (.bool false)], args := [d1, d2] }
  | _ => none }
def FnExactMayAtWrongFalsely : Prop := fnExactMayAtRow.holds Try.pinned (OpenSpec.ofChange fnExactMayAtWrong)

/-- 'laws.FnExactStartsOf': WHATEVER THE INPUT: true; the input reads as it did. -/
def fnExactStartsOfSpec : ChangeSpec := { name := "fnExactStartsOf", fn := fun _ => fun
  | [d1, d2] => { results := [.lit (.bool true)], args := [d1, d2] }
  | _ => none }
def fnExactStartsOfRow : OpenClaim := { program := "ytimnjiicdjfjfaa", sum := "504632383262e9854c1f8045e51b7bf7d86ff1b4d42e53d5e01b1e8ac4e76cb2", func := "loop.example/g00966/laws.FnExactStartsOf", spec := "fnExactStartsOf", recurses := true, loops := true, apart := false }
def FnExactStartsOfSaid : Prop := fnExactStartsOfRow.holds Try.pinned (OpenSpec.ofChange fnExactStartsOfSpec)

/-- ITS FALSE NEIGHBOUR: 'it returns false'. Refute it at one input. -/
def fnExactStartsOfWrong : ChangeSpec := { name := "fnExactStartsOf", fn := fun _ => fun
  | [d1, d2] => { results := [.lit (.bool false)], args := [d1, d2] }
  | _ => none }
def FnExactStartsOfWrongFalsely : Prop := fnExactStartsOfRow.holds Try.pinned (OpenSpec.ofChange fnExactStartsOfWrong)

/-- 'laws.FnExactMetIn': WHATEVER THE INPUT: true; the input reads as it did. -/
def fnExactMetInSpec : ChangeSpec := { name := "fnExactMetIn", fn := fun _ => fun
  | [d] => { results := [.lit (.bool true)], args := [d] }
  | _ => none }
def fnExactMetInRow : OpenClaim := { program := "ytimnjiicdjfjfaa", sum := "504632383262e9854c1f8045e51b7bf7d86ff1b4d42e53d5e01b1e8ac4e76cb2", func := "loop.example/g00966/laws.FnExactMetIn", spec := "fnExactMetIn", unfollowed := true, recurses := true, loops := true, apart := false }
def FnExactMetInSaid : Prop := fnExactMetInRow.holds Try.pinned (OpenSpec.ofChange fnExactMetInSpec)

/-- ITS FALSE NEIGHBOUR: 'it returns false'. Refute it at one input. -/
def fnExactMetInWrong : ChangeSpec := { name := "fnExactMetIn", fn := fun _ => fun
  | [d] => { results := [.lit (.bool false)], args := [d] }
  | _ => none }
def FnExactMetInWrongFalsely : Prop := fnExactMetInRow.holds Try.pinned (OpenSpec.ofChange fnExactMetInWrong)

/-- 'laws.FnExactBeside': WHATEVER THE INPUT: true; the input reads as it did. -/
def fnExactBesideSpec : ChangeSpec := { name := "fnExactBeside", fn := fun _ => fun
  | [d1, d2, d3] => { results := [.lit (.bool true)], args := [d1, d2, d3] }
  | _ => none }
def fnExactBesideRow : OpenClaim := { program := "ytimnjiicdjfjfaa", sum := "504632383262e9854c1f8045e51b7bf7d86ff1b4d42e53d5e01b1e8ac4e76cb2", func := "loop.example/g00966/laws.FnExactBeside", spec := "fnExactBeside", recurses := true, loops := true, apart := false }
def FnExactBesideSaid : Prop := fnExactBesideRow.holds Try.pinned (OpenSpec.ofChange fnExactBesideSpec)

/-- ITS FALSE NEIGHBOUR: 'it returns false'. Refute it at one input. -/
def fnExactBesideWrong : ChangeSpec := { name := "fnExactBeside", fn := fun _ => fun
  | [d1, d2, d3] => { results := [.lit (.bool false)], args := [d1, d2, d3] }
  | _ => none }
def FnExactBesideWrongFalsely : Prop := fnExactBesideRow.holds Try.pinned (OpenSpec.ofChange fnExactBesideWrong)

/-- 'laws.FnExactMayOf': WHATEVER THE INPUT: true; the input reads as it did. -/
def fnExactMayOfSpec : ChangeSpec := { name := "fnExactMayOf", fn := fun _ => fun
  | [d] => { results := [.lit (.bool true)], args := [d] }
  | _ => none }
def fnExactMayOfRow : OpenClaim := { program := "ytimnjiicdjfjfaa", sum := "504632383262e9854c1f8045e51b7bf7d86ff1b4d42e53d5e01b1e8ac4e76cb2", func := "loop.example/g00966/laws.FnExactMayOf", spec := "fnExactMayOf", unfollowed := true, recurses := true, loops := true, apart := false }
def FnExactMayOfSaid : Prop := fnExactMayOfRow.holds Try.pinned (OpenSpec.ofChange fnExactMayOfSpec)

/-- ITS FALSE NEIGHBOUR: 'it returns false'. Refute it at one input. -/
def fnExactMayOfWrong : ChangeSpec := { name := "fnExactMayOf", fn := fun _ => fun
  | [d] => { results := [.lit (.bool false)], args := [d] }
  | _ => none }
def FnExactMayOfWrongFalsely : Prop := fnExactMayOfRow.holds Try.pinned (OpenSpec.ofChange fnExactMayOfWrong)

/- THE SECOND FORM. 'bulk': how many values and letters a reading holds, each counted each time it is reached (what is shared counts as often as it is met; a slice's spare places count too). A statement '..UptoSaid' is the law's where the arguments, and the package variables that the reading takes, are together of bulk at most 1048576: NARROWER than '..Said'. Prove '..Said' where nothing that the law and all that it calls make is longer than what came in: it says more and counts as full. Else prove '..UptoSaid'. A law counts once. -/
mutual
def uptoBulk {H : Type} : DataW H → Nat
  | .lit (.string bytes) => bytes.length + 1
  | .lit _ => 1
  | .nil => 1
  | .ptr d => uptoBulk d + 1
  | .slice elems spare => uptoBulkAll elems + uptoBulkAll spare + 1
  | .agg parts => uptoBulkAll parts + 1
  | .iface _ d => uptoBulk d + 1
  | .map entries => uptoBulkEntries entries + 1
  | .held _ => 1
def uptoBulkAll {H : Type} : List (DataW H) → Nat
  | [] => 0
  | d :: r => uptoBulk d + uptoBulkAll r
def uptoBulkEntries {H : Type} : List (Lit × DataW H) → Nat
  | [] => 0
  | x :: r => uptoBulkEntry x + uptoBulkEntries r
def uptoBulkEntry {H : Type} : Lit × DataW H → Nat
  | (.string bytes, d) => bytes.length + uptoBulk d + 1
  | (_, d) => uptoBulk d + 1
 end
def uptoSmall : (H : Type) → List (DataW H) → Bool := fun _ ds => decide (uptoBulkAll ds ≤ 1048576)
def OpenSpec.upto (s : _root_.Go.ChangeSpec) : _root_.Go.OpenSpec := { _root_.Go.OpenSpec.ofChange s with cond := some uptoSmall }

/-- 'laws.FnExactNamesOf', WHERE WHAT IT READS IS OF BULK AT MOST 1048576: true; the input reads as it did. -/
def fnExactNamesOfUptoRow : OpenClaim := { program := "ytimnjiicdjfjfaa", sum := "504632383262e9854c1f8045e51b7bf7d86ff1b4d42e53d5e01b1e8ac4e76cb2", func := "loop.example/g00966/laws.FnExactNamesOf", spec := "fnExactNamesOf", recurses := true, loops := true, apart := false, narrowed := true }
def FnExactNamesOfUptoSaid : Prop := fnExactNamesOfUptoRow.holds Try.pinned (OpenSpec.upto fnExactNamesOfSpec)

/-- 'laws.FnExactCallsFrom', WHERE WHAT IT READS IS OF BULK AT MOST 1048576: true; the input reads as it did. -/
def fnExactCallsFromUptoRow : OpenClaim := { program := "ytimnjiicdjfjfaa", sum := "504632383262e9854c1f8045e51b7bf7d86ff1b4d42e53d5e01b1e8ac4e76cb2", func := "loop.example/g00966/laws.FnExactCallsFrom", spec := "fnExactCallsFrom", recurses := true, loops := true, apart := false, narrowed := true }
def FnExactCallsFromUptoSaid : Prop := fnExactCallsFromUptoRow.holds Try.pinned (OpenSpec.upto fnExactCallsFromSpec)

/-- 'laws.FnExactCallersOf', WHERE WHAT IT READS IS OF BULK AT MOST 1048576: true; the input reads as it did. -/
def fnExactCallersOfUptoRow : OpenClaim := { program := "ytimnjiicdjfjfaa", sum := "504632383262e9854c1f8045e51b7bf7d86ff1b4d42e53d5e01b1e8ac4e76cb2", func := "loop.example/g00966/laws.FnExactCallersOf", spec := "fnExactCallersOf", recurses := true, loops := true, apart := false, narrowed := true }
def FnExactCallersOfUptoSaid : Prop := fnExactCallersOfUptoRow.holds Try.pinned (OpenSpec.upto fnExactCallersOfSpec)

/-- 'laws.FnExactRootsOf', WHERE WHAT IT READS IS OF BULK AT MOST 1048576: true; the input reads as it did. -/
def fnExactRootsOfUptoRow : OpenClaim := { program := "ytimnjiicdjfjfaa", sum := "504632383262e9854c1f8045e51b7bf7d86ff1b4d42e53d5e01b1e8ac4e76cb2", func := "loop.example/g00966/laws.FnExactRootsOf", spec := "fnExactRootsOf", recurses := true, loops := true, apart := false, narrowed := true }
def FnExactRootsOfUptoSaid : Prop := fnExactRootsOfUptoRow.holds Try.pinned (OpenSpec.upto fnExactRootsOfSpec)

/-- 'laws.FnExactUsedIn', WHERE WHAT IT READS IS OF BULK AT MOST 1048576: true; the input reads as it did. -/
def fnExactUsedInUptoRow : OpenClaim := { program := "ytimnjiicdjfjfaa", sum := "504632383262e9854c1f8045e51b7bf7d86ff1b4d42e53d5e01b1e8ac4e76cb2", func := "loop.example/g00966/laws.FnExactUsedIn", spec := "fnExactUsedIn", recurses := true, loops := true, apart := false, narrowed := true }
def FnExactUsedInUptoSaid : Prop := fnExactUsedInUptoRow.holds Try.pinned (OpenSpec.upto fnExactUsedInSpec)

/-- 'laws.FnExactSingle', WHERE WHAT IT READS IS OF BULK AT MOST 1048576: true; the input reads as it did. -/
def fnExactSingleUptoRow : OpenClaim := { program := "ytimnjiicdjfjfaa", sum := "504632383262e9854c1f8045e51b7bf7d86ff1b4d42e53d5e01b1e8ac4e76cb2", func := "loop.example/g00966/laws.FnExactSingle", spec := "fnExactSingle", recurses := true, loops := true, apart := false, narrowed := true }
def FnExactSingleUptoSaid : Prop := fnExactSingleUptoRow.holds Try.pinned (OpenSpec.upto fnExactSingleSpec)

/-- 'laws.FnExactRootsAt', WHERE WHAT IT READS IS OF BULK AT MOST 1048576: true; the input reads as it did. -/
def fnExactRootsAtUptoRow : OpenClaim := { program := "ytimnjiicdjfjfaa", sum := "504632383262e9854c1f8045e51b7bf7d86ff1b4d42e53d5e01b1e8ac4e76cb2", func := "loop.example/g00966/laws.FnExactRootsAt", spec := "fnExactRootsAt", recurses := true, loops := true, apart := false, narrowed := true }
def FnExactRootsAtUptoSaid : Prop := fnExactRootsAtUptoRow.holds Try.pinned (OpenSpec.upto fnExactRootsAtSpec)

/-- 'laws.FnExactMayAt', WHERE WHAT IT READS IS OF BULK AT MOST 1048576: true; the input reads as it did. -/
def fnExactMayAtUptoRow : OpenClaim := { program := "ytimnjiicdjfjfaa", sum := "504632383262e9854c1f8045e51b7bf7d86ff1b4d42e53d5e01b1e8ac4e76cb2", func := "loop.example/g00966/laws.FnExactMayAt", spec := "fnExactMayAt", unfollowed := true, recurses := true, loops := true, apart := false, narrowed := true }
def FnExactMayAtUptoSaid : Prop := fnExactMayAtUptoRow.holds Try.pinned (OpenSpec.upto fnExactMayAtSpec)

/-- 'laws.FnExactStartsOf', WHERE WHAT IT READS IS OF BULK AT MOST 1048576: true; the input reads as it did. -/
def fnExactStartsOfUptoRow : OpenClaim := { program := "ytimnjiicdjfjfaa", sum := "504632383262e9854c1f8045e51b7bf7d86ff1b4d42e53d5e01b1e8ac4e76cb2", func := "loop.example/g00966/laws.FnExactStartsOf", spec := "fnExactStartsOf", recurses := true, loops := true, apart := false, narrowed := true }
def FnExactStartsOfUptoSaid : Prop := fnExactStartsOfUptoRow.holds Try.pinned (OpenSpec.upto fnExactStartsOfSpec)

/-- 'laws.FnExactMetIn', WHERE WHAT IT READS IS OF BULK AT MOST 1048576: true; the input reads as it did. -/
def fnExactMetInUptoRow : OpenClaim := { program := "ytimnjiicdjfjfaa", sum := "504632383262e9854c1f8045e51b7bf7d86ff1b4d42e53d5e01b1e8ac4e76cb2", func := "loop.example/g00966/laws.FnExactMetIn", spec := "fnExactMetIn", unfollowed := true, recurses := true, loops := true, apart := false, narrowed := true }
def FnExactMetInUptoSaid : Prop := fnExactMetInUptoRow.holds Try.pinned (OpenSpec.upto fnExactMetInSpec)

/-- 'laws.FnExactBeside', WHERE WHAT IT READS IS OF BULK AT MOST 1048576: true; the input reads as it did. -/
def fnExactBesideUptoRow : OpenClaim := { program := "ytimnjiicdjfjfaa", sum := "504632383262e9854c1f8045e51b7bf7d86ff1b4d42e53d5e01b1e8ac4e76cb2", func := "loop.example/g00966/laws.FnExactBeside", spec := "fnExactBeside", recurses := true, loops := true, apart := false, narrowed := true }
def FnExactBesideUptoSaid : Prop := fnExactBesideUptoRow.holds Try.pinned (OpenSpec.upto fnExactBesideSpec)

/-- 'laws.FnExactMayOf', WHERE WHAT IT READS IS OF BULK AT MOST 1048576: true; the input reads as it did. -/
def fnExactMayOfUptoRow : OpenClaim := { program := "ytimnjiicdjfjfaa", sum := "504632383262e9854c1f8045e51b7bf7d86ff1b4d42e53d5e01b1e8ac4e76cb2", func := "loop.example/g00966/laws.FnExactMayOf", spec := "fnExactMayOf", unfollowed := true, recurses := true, loops := true, apart := false, narrowed := true }
def FnExactMayOfUptoSaid : Prop := fnExactMayOfUptoRow.holds Try.pinned (OpenSpec.upto fnExactMayOfSpec)

end Rows
end Go.Proofs.Ytimnjiicdjfjfaa
