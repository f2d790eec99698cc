/-
  NARROWER THAN 'FOR EVERY INPUT', by the rows' own cells (each row's printed sentence says how): FnExactWritersOf: loops · FnExactQuietOf: loops.
  DERIVED. THE GIVEN ROWS OF THIS SEAT. 8 by the template 'for every input the law returns true; each argument reads behind the call as it read before'; 0 by the template 'total and deterministic' (their statements: YtkgoajnnkimkaaaGreatTotals.lean).
  GIVEN WITH THE SEED: the statements are not yours to turn. If you find one false, say at which input.
  Laid BY PROGRAM, IN A SANDBOX (cutbox-rows.mjs): the forced cells as the released guide's own fill.sh prints them over the translation 1b6631a3cb2fcfd8… (all of the seat's roots in one cut). By AI agents, Wed Nov 11 2026. No macro, syntax, notation, axiom, sorry.
-/
import Derived.Test.YtkgoajnnkimkaaaGreatChecked
import GoSem.Claim
import GoSem.ClaimJoined
import GoSem.ClaimMapViews
import Derived.JoinedTies
import Derived.KernelRfl
namespace Go.Proofs.YtkgoajnnkimkaaaGreat
/- THE CELL 'sum', in the pinned program and in every row, IS THE sha256 OF THE DUMP (.gsa) THAT YtkgoajnnkimkaaaGreatProg.lean LOADS. Nothing in Lean hashes anything: it is a label: what it is worth is what the hold of that sum in a sandbox is worth. -/
noncomputable def Tryz.pinned : Pinned := { name := "ytkgoajnnkimkaaagreat", sum := "1b6631a3cb2fcfd888f5643092ec791fb6f752daef0e939e322dd1d8e5cf928c", checked := Tryz.checked }
namespace Rows
def none {H : Type} : Left H := { results := [], args := [] }

/-- 'laws.FnEffects': WHATEVER THE INPUT: true; the input reads as it did. -/
def fnEffectsSpec : ChangeSpec := { name := "fnEffects", fn := fun _ => fun
  | [d] => { results := [.lit (.bool true)], args := [d] }
  | _ => none }
def fnEffectsRow : OpenClaim := { program := "ytkgoajnnkimkaaagreat", sum := "1b6631a3cb2fcfd888f5643092ec791fb6f752daef0e939e322dd1d8e5cf928c", func := "loop.example/g00966/laws.FnEffects", spec := "fnEffects", recurses := true, apart := false }
def FnEffectsSaid : Prop := fnEffectsRow.holds Tryz.pinned (OpenSpec.ofChange fnEffectsSpec)

/-- ITS FALSE NEIGHBOUR: 'it returns false'. Refute it at one input. -/
def fnEffectsWrong : ChangeSpec := { name := "fnEffects", fn := fun _ => fun
  | [d] => { results := [.lit (.bool false)], args := [d] }
  | _ => none }
def FnEffectsWrongFalsely : Prop := fnEffectsRow.holds Tryz.pinned (OpenSpec.ofChange fnEffectsWrong)

/-- 'laws.FnRoots': WHATEVER THE INPUT: true; the input reads as it did. -/
def fnRootsSpec : ChangeSpec := { name := "fnRoots", fn := fun _ => fun
  | [d] => { results := [.lit (.bool true)], args := [d] }
  | _ => none }
def fnRootsRow : OpenClaim := { program := "ytkgoajnnkimkaaagreat", sum := "1b6631a3cb2fcfd888f5643092ec791fb6f752daef0e939e322dd1d8e5cf928c", func := "loop.example/g00966/laws.FnRoots", spec := "fnRoots", recurses := true, apart := false }
def FnRootsSaid : Prop := fnRootsRow.holds Tryz.pinned (OpenSpec.ofChange fnRootsSpec)

/-- ITS FALSE NEIGHBOUR: 'it returns false'. Refute it at one input. -/
def fnRootsWrong : ChangeSpec := { name := "fnRoots", fn := fun _ => fun
  | [d] => { results := [.lit (.bool false)], args := [d] }
  | _ => none }
def FnRootsWrongFalsely : Prop := fnRootsRow.holds Tryz.pinned (OpenSpec.ofChange fnRootsWrong)

/-- 'laws.FnMust': WHATEVER THE INPUT: true; the input reads as it did. -/
def fnMustSpec : ChangeSpec := { name := "fnMust", fn := fun _ => fun
  | [d] => { results := [.lit (.bool true)], args := [d] }
  | _ => none }
def fnMustRow : OpenClaim := { program := "ytkgoajnnkimkaaagreat", sum := "1b6631a3cb2fcfd888f5643092ec791fb6f752daef0e939e322dd1d8e5cf928c", func := "loop.example/g00966/laws.FnMust", spec := "fnMust", unfollowed := true, recurses := true, apart := false }
def FnMustSaid : Prop := fnMustRow.holds Tryz.pinned (OpenSpec.ofChange fnMustSpec)

/-- ITS FALSE NEIGHBOUR: 'it returns false'. Refute it at one input. -/
def fnMustWrong : ChangeSpec := { name := "fnMust", fn := fun _ => fun
  | [d] => { results := [.lit (.bool false)], args := [d] }
  | _ => none }
def FnMustWrongFalsely : Prop := fnMustRow.holds Tryz.pinned (OpenSpec.ofChange fnMustWrong)

/-- 'laws.FnFlows': WHATEVER THE INPUT: true; the input reads as it did. -/
def fnFlowsSpec : ChangeSpec := { name := "fnFlows", fn := fun _ => fun
  | [d] => { results := [.lit (.bool true)], args := [d] }
  | _ => none }
def fnFlowsRow : OpenClaim := { program := "ytkgoajnnkimkaaagreat", sum := "1b6631a3cb2fcfd888f5643092ec791fb6f752daef0e939e322dd1d8e5cf928c", func := "loop.example/g00966/laws.FnFlows", spec := "fnFlows", recurses := true, apart := false }
def FnFlowsSaid : Prop := fnFlowsRow.holds Tryz.pinned (OpenSpec.ofChange fnFlowsSpec)

/-- ITS FALSE NEIGHBOUR: 'it returns false'. Refute it at one input. -/
def fnFlowsWrong : ChangeSpec := { name := "fnFlows", fn := fun _ => fun
  | [d] => { results := [.lit (.bool false)], args := [d] }
  | _ => none }
def FnFlowsWrongFalsely : Prop := fnFlowsRow.holds Tryz.pinned (OpenSpec.ofChange fnFlowsWrong)

/-- 'laws.FnCalls': WHATEVER THE INPUT: true; the input reads as it did. -/
def fnCallsSpec : ChangeSpec := { name := "fnCalls", fn := fun _ => fun
  | [d] => { results := [.lit (.bool true)], args := [d] }
  | _ => none }
def fnCallsRow : OpenClaim := { program := "ytkgoajnnkimkaaagreat", sum := "1b6631a3cb2fcfd888f5643092ec791fb6f752daef0e939e322dd1d8e5cf928c", func := "loop.example/g00966/laws.FnCalls", spec := "fnCalls", recurses := true, apart := false }
def FnCallsSaid : Prop := fnCallsRow.holds Tryz.pinned (OpenSpec.ofChange fnCallsSpec)

/-- ITS FALSE NEIGHBOUR: 'it returns false'. Refute it at one input. -/
def fnCallsWrong : ChangeSpec := { name := "fnCalls", fn := fun _ => fun
  | [d] => { results := [.lit (.bool false)], args := [d] }
  | _ => none }
def FnCallsWrongFalsely : Prop := fnCallsRow.holds Tryz.pinned (OpenSpec.ofChange fnCallsWrong)

/-- 'laws.FnExactWritersOf': WHATEVER THE INPUT: true; the input reads as it did. -/
def fnExactWritersOfSpec : ChangeSpec := { name := "fnExactWritersOf", fn := fun _ => fun
  | [d1, d2] => { results := [.lit (.bool true)], args := [d1, d2] }
  | _ => none }
def fnExactWritersOfRow : OpenClaim := { program := "ytkgoajnnkimkaaagreat", sum := "1b6631a3cb2fcfd888f5643092ec791fb6f752daef0e939e322dd1d8e5cf928c", func := "loop.example/g00966/laws.FnExactWritersOf", spec := "fnExactWritersOf", unfollowed := true, recurses := true, loops := true, apart := false }
def FnExactWritersOfSaid : Prop := fnExactWritersOfRow.holds Tryz.pinned (OpenSpec.ofChange fnExactWritersOfSpec)

/-- ITS FALSE NEIGHBOUR: 'it returns false'. Refute it at one input. -/
def fnExactWritersOfWrong : ChangeSpec := { name := "fnExactWritersOf", fn := fun _ => fun
  | [d1, d2] => { results := [.lit (.bool false)], args := [d1, d2] }
  | _ => none }
def FnExactWritersOfWrongFalsely : Prop := fnExactWritersOfRow.holds Tryz.pinned (OpenSpec.ofChange fnExactWritersOfWrong)

/-- 'laws.FnExactQuietOf': WHATEVER THE INPUT: true; the input reads as it did. -/
def fnExactQuietOfSpec : ChangeSpec := { name := "fnExactQuietOf", fn := fun _ => fun
  | [d] => { results := [.lit (.bool true)], args := [d] }
  | _ => none }
def fnExactQuietOfRow : OpenClaim := { program := "ytkgoajnnkimkaaagreat", sum := "1b6631a3cb2fcfd888f5643092ec791fb6f752daef0e939e322dd1d8e5cf928c", func := "loop.example/g00966/laws.FnExactQuietOf", spec := "fnExactQuietOf", unfollowed := true, recurses := true, loops := true, apart := false }
def FnExactQuietOfSaid : Prop := fnExactQuietOfRow.holds Tryz.pinned (OpenSpec.ofChange fnExactQuietOfSpec)

/-- ITS FALSE NEIGHBOUR: 'it returns false'. Refute it at one input. -/
def fnExactQuietOfWrong : ChangeSpec := { name := "fnExactQuietOf", fn := fun _ => fun
  | [d] => { results := [.lit (.bool false)], args := [d] }
  | _ => none }
def FnExactQuietOfWrongFalsely : Prop := fnExactQuietOfRow.holds Tryz.pinned (OpenSpec.ofChange fnExactQuietOfWrong)

/-- 'laws.FnTouches': WHATEVER THE INPUT: true; the input reads as it did. -/
def fnTouchesSpec : ChangeSpec := { name := "fnTouches", fn := fun _ => fun
  | [d] => { results := [.lit (.bool true)], args := [d] }
  | _ => none }
def fnTouchesRow : OpenClaim := { program := "ytkgoajnnkimkaaagreat", sum := "1b6631a3cb2fcfd888f5643092ec791fb6f752daef0e939e322dd1d8e5cf928c", func := "loop.example/g00966/laws.FnTouches", spec := "fnTouches", unfollowed := true, recurses := true, apart := false }
def FnTouchesSaid : Prop := fnTouchesRow.holds Tryz.pinned (OpenSpec.ofChange fnTouchesSpec)

/-- ITS FALSE NEIGHBOUR: 'it returns false'. Refute it at one input. -/
def fnTouchesWrong : ChangeSpec := { name := "fnTouches", fn := fun _ => fun
  | [d] => { results := [.lit (.bool false)], args := [d] }
  | _ => none }
def FnTouchesWrongFalsely : Prop := fnTouchesRow.holds Tryz.pinned (OpenSpec.ofChange fnTouchesWrong)

/- THE SECOND FORM. 'bulk': how many values and letters a reading holds, each counted each time it is reached (what is shared counts as often as it is met; a slice's spare places count too). A statement '..UptoSaid' is the law's where the arguments, and the package variables that the reading takes, are together of bulk at most 1048576: NARROWER than '..Said'. Prove '..Said' where nothing that the law and all that it calls make is longer than what came in: it says more and counts as full. Else prove '..UptoSaid'. A law counts once. -/
mutual
def uptoBulk {H : Type} : DataW H → Nat
  | .lit (.string bytes) => bytes.length + 1
  | .lit _ => 1
  | .nil => 1
  | .ptr d => uptoBulk d + 1
  | .slice elems spare => uptoBulkAll elems + uptoBulkAll spare + 1
  | .agg parts => uptoBulkAll parts + 1
  | .iface _ d => uptoBulk d + 1
  | .map entries => uptoBulkEntries entries + 1
  | .held _ => 1
def uptoBulkAll {H : Type} : List (DataW H) → Nat
  | [] => 0
  | d :: r => uptoBulk d + uptoBulkAll r
def uptoBulkEntries {H : Type} : List (Lit × DataW H) → Nat
  | [] => 0
  | x :: r => uptoBulkEntry x + uptoBulkEntries r
def uptoBulkEntry {H : Type} : Lit × DataW H → Nat
  | (.string bytes, d) => bytes.length + uptoBulk d + 1
  | (_, d) => uptoBulk d + 1
 end
def uptoSmall : (H : Type) → List (DataW H) → Bool := fun _ ds => decide (uptoBulkAll ds ≤ 1048576)
def OpenSpec.upto (s : _root_.Go.ChangeSpec) : _root_.Go.OpenSpec := { _root_.Go.OpenSpec.ofChange s with cond := some uptoSmall }

/-- 'laws.FnEffects', WHERE WHAT IT READS IS OF BULK AT MOST 1048576: true; the input reads as it did. -/
def fnEffectsUptoRow : OpenClaim := { program := "ytkgoajnnkimkaaagreat", sum := "1b6631a3cb2fcfd888f5643092ec791fb6f752daef0e939e322dd1d8e5cf928c", func := "loop.example/g00966/laws.FnEffects", spec := "fnEffects", recurses := true, apart := false, narrowed := true }
def FnEffectsUptoSaid : Prop := fnEffectsUptoRow.holds Tryz.pinned (OpenSpec.upto fnEffectsSpec)

/-- 'laws.FnRoots', WHERE WHAT IT READS IS OF BULK AT MOST 1048576: true; the input reads as it did. -/
def fnRootsUptoRow : OpenClaim := { program := "ytkgoajnnkimkaaagreat", sum := "1b6631a3cb2fcfd888f5643092ec791fb6f752daef0e939e322dd1d8e5cf928c", func := "loop.example/g00966/laws.FnRoots", spec := "fnRoots", recurses := true, apart := false, narrowed := true }
def FnRootsUptoSaid : Prop := fnRootsUptoRow.holds Tryz.pinned (OpenSpec.upto fnRootsSpec)

/-- 'laws.FnMust', WHERE WHAT IT READS IS OF BULK AT MOST 1048576: true; the input reads as it did. -/
def fnMustUptoRow : OpenClaim := { program := "ytkgoajnnkimkaaagreat", sum := "1b6631a3cb2fcfd888f5643092ec791fb6f752daef0e939e322dd1d8e5cf928c", func := "loop.example/g00966/laws.FnMust", spec := "fnMust", unfollowed := true, recurses := true, apart := false, narrowed := true }
def FnMustUptoSaid : Prop := fnMustUptoRow.holds Tryz.pinned (OpenSpec.upto fnMustSpec)

/-- 'laws.FnFlows', WHERE WHAT IT READS IS OF BULK AT MOST 1048576: true; the input reads as it did. -/
def fnFlowsUptoRow : OpenClaim := { program := "ytkgoajnnkimkaaagreat", sum := "1b6631a3cb2fcfd888f5643092ec791fb6f752daef0e939e322dd1d8e5cf928c", func := "loop.example/g00966/laws.FnFlows", spec := "fnFlows", recurses := true, apart := false, narrowed := true }
def FnFlowsUptoSaid : Prop := fnFlowsUptoRow.holds Tryz.pinned (OpenSpec.upto fnFlowsSpec)

/-- 'laws.FnCalls', WHERE WHAT IT READS IS OF BULK AT MOST 1048576: true; the input reads as it did. -/
def fnCallsUptoRow : OpenClaim := { program := "ytkgoajnnkimkaaagreat", sum := "1b6631a3cb2fcfd888f5643092ec791fb6f752daef0e939e322dd1d8e5cf928c", func := "loop.example/g00966/laws.FnCalls", spec := "fnCalls", recurses := true, apart := false, narrowed := true }
def FnCallsUptoSaid : Prop := fnCallsUptoRow.holds Tryz.pinned (OpenSpec.upto fnCallsSpec)

/-- 'laws.FnExactWritersOf', WHERE WHAT IT READS IS OF BULK AT MOST 1048576: true; the input reads as it did. -/
def fnExactWritersOfUptoRow : OpenClaim := { program := "ytkgoajnnkimkaaagreat", sum := "1b6631a3cb2fcfd888f5643092ec791fb6f752daef0e939e322dd1d8e5cf928c", func := "loop.example/g00966/laws.FnExactWritersOf", spec := "fnExactWritersOf", unfollowed := true, recurses := true, loops := true, apart := false, narrowed := true }
def FnExactWritersOfUptoSaid : Prop := fnExactWritersOfUptoRow.holds Tryz.pinned (OpenSpec.upto fnExactWritersOfSpec)

/-- 'laws.FnExactQuietOf', WHERE WHAT IT READS IS OF BULK AT MOST 1048576: true; the input reads as it did. -/
def fnExactQuietOfUptoRow : OpenClaim := { program := "ytkgoajnnkimkaaagreat", sum := "1b6631a3cb2fcfd888f5643092ec791fb6f752daef0e939e322dd1d8e5cf928c", func := "loop.example/g00966/laws.FnExactQuietOf", spec := "fnExactQuietOf", unfollowed := true, recurses := true, loops := true, apart := false, narrowed := true }
def FnExactQuietOfUptoSaid : Prop := fnExactQuietOfUptoRow.holds Tryz.pinned (OpenSpec.upto fnExactQuietOfSpec)

/-- 'laws.FnTouches', WHERE WHAT IT READS IS OF BULK AT MOST 1048576: true; the input reads as it did. -/
def fnTouchesUptoRow : OpenClaim := { program := "ytkgoajnnkimkaaagreat", sum := "1b6631a3cb2fcfd888f5643092ec791fb6f752daef0e939e322dd1d8e5cf928c", func := "loop.example/g00966/laws.FnTouches", spec := "fnTouches", unfollowed := true, recurses := true, apart := false, narrowed := true }
def FnTouchesUptoSaid : Prop := fnTouchesUptoRow.holds Tryz.pinned (OpenSpec.upto fnTouchesSpec)

end Rows
end Go.Proofs.YtkgoajnnkimkaaaGreat
