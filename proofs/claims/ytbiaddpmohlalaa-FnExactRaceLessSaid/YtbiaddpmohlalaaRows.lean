/-
  No cell of these rows narrows 'for every input' (looked for: loops, veiled, ifaces, maps, wideKeys, modest, calm, conditions, laid).
  DERIVED. THE GIVEN ROWS OF THIS SEAT. 9 by the template 'for every input the law returns true; each argument reads behind the call as it read before'; 0 by the template 'total and deterministic' (their statements: YtbiaddpmohlalaaTotals.lean).
  GIVEN WITH THE SEED: the statements are not yours to turn. If you find one false, say at which input.
  Laid BY PROGRAM, IN A SANDBOX (cutbox-rows.mjs): the forced cells as the released guide's own fill.sh prints them over the translation 683ea6743eaebb91… (all of the seat's roots in one cut). By AI agents, Wed Nov 11 2026. No macro, syntax, notation, axiom, sorry.
-/
import Derived.Test.YtbiaddpmohlalaaChecked
import GoSem.Claim
import GoSem.ClaimJoined
import GoSem.ClaimMapViews
import Derived.JoinedTies
import Derived.KernelRfl
namespace Go.Proofs.Ytbiaddpmohlalaa
/- THE CELL 'sum', in the pinned program and in every row, IS THE sha256 OF THE DUMP (.gsa) THAT YtbiaddpmohlalaaProg.lean LOADS. Nothing in Lean hashes anything: it is a label: what it is worth is what the hold of that sum in a sandbox is worth. -/
noncomputable def Try.pinned : Pinned := { name := "ytbiaddpmohlalaa", sum := "683ea6743eaebb9108acff163f788f5ac51fb76219eeaac9c7b2a5d8309b07e1", checked := Try.checked }
namespace Rows
def none {H : Type} : Left H := { results := [], args := [] }

/-- 'laws.FnExactWithin': WHATEVER THE INPUT: true; the input reads as it did. -/
def fnExactWithinSpec : ChangeSpec := { name := "fnExactWithin", fn := fun _ => fun
  | [d1, d2] => { results := [.lit (.bool true)], args := [d1, d2] }
  | _ => none }
def fnExactWithinRow : OpenClaim := { program := "ytbiaddpmohlalaa", sum := "683ea6743eaebb9108acff163f788f5ac51fb76219eeaac9c7b2a5d8309b07e1", func := "loop.example/g00966/laws.FnExactWithin", spec := "fnExactWithin", apart := false }
def FnExactWithinSaid : Prop := fnExactWithinRow.holds Try.pinned (OpenSpec.ofChange fnExactWithinSpec)

/-- ITS FALSE NEIGHBOUR: 'it returns false'. Refute it at one input. -/
def fnExactWithinWrong : ChangeSpec := { name := "fnExactWithin", fn := fun _ => fun
  | [d1, d2] => { results := [.lit (.bool false)], args := [d1, d2] }
  | _ => none }
def FnExactWithinWrongFalsely : Prop := fnExactWithinRow.holds Try.pinned (OpenSpec.ofChange fnExactWithinWrong)

/-- 'laws.FnExactInSet': WHATEVER THE INPUT: true; the input reads as it did. -/
def fnExactInSetSpec : ChangeSpec := { name := "fnExactInSet", fn := fun _ => fun
  | [d1, d2] => { results := [.lit (.bool true)], args := [d1, d2] }
  | _ => none }
def fnExactInSetRow : OpenClaim := { program := "ytbiaddpmohlalaa", sum := "683ea6743eaebb9108acff163f788f5ac51fb76219eeaac9c7b2a5d8309b07e1", func := "loop.example/g00966/laws.FnExactInSet", spec := "fnExactInSet", apart := false }
def FnExactInSetSaid : Prop := fnExactInSetRow.holds Try.pinned (OpenSpec.ofChange fnExactInSetSpec)

/-- ITS FALSE NEIGHBOUR: 'it returns false'. Refute it at one input. -/
def fnExactInSetWrong : ChangeSpec := { name := "fnExactInSet", fn := fun _ => fun
  | [d1, d2] => { results := [.lit (.bool false)], args := [d1, d2] }
  | _ => none }
def FnExactInSetWrongFalsely : Prop := fnExactInSetRow.holds Try.pinned (OpenSpec.ofChange fnExactInSetWrong)

/-- 'laws.FnExactBoth': WHATEVER THE INPUT: true; the input reads as it did. -/
def fnExactBothSpec : ChangeSpec := { name := "fnExactBoth", fn := fun _ => fun
  | [d1, d2] => { results := [.lit (.bool true)], args := [d1, d2] }
  | _ => none }
def fnExactBothRow : OpenClaim := { program := "ytbiaddpmohlalaa", sum := "683ea6743eaebb9108acff163f788f5ac51fb76219eeaac9c7b2a5d8309b07e1", func := "loop.example/g00966/laws.FnExactBoth", spec := "fnExactBoth", apart := false }
def FnExactBothSaid : Prop := fnExactBothRow.holds Try.pinned (OpenSpec.ofChange fnExactBothSpec)

/-- ITS FALSE NEIGHBOUR: 'it returns false'. Refute it at one input. -/
def fnExactBothWrong : ChangeSpec := { name := "fnExactBoth", fn := fun _ => fun
  | [d1, d2] => { results := [.lit (.bool false)], args := [d1, d2] }
  | _ => none }
def FnExactBothWrongFalsely : Prop := fnExactBothRow.holds Try.pinned (OpenSpec.ofChange fnExactBothWrong)

/-- 'laws.FnExactEither': WHATEVER THE INPUT: true; the input reads as it did. -/
def fnExactEitherSpec : ChangeSpec := { name := "fnExactEither", fn := fun _ => fun
  | [d1, d2] => { results := [.lit (.bool true)], args := [d1, d2] }
  | _ => none }
def fnExactEitherRow : OpenClaim := { program := "ytbiaddpmohlalaa", sum := "683ea6743eaebb9108acff163f788f5ac51fb76219eeaac9c7b2a5d8309b07e1", func := "loop.example/g00966/laws.FnExactEither", spec := "fnExactEither", apart := false }
def FnExactEitherSaid : Prop := fnExactEitherRow.holds Try.pinned (OpenSpec.ofChange fnExactEitherSpec)

/-- ITS FALSE NEIGHBOUR: 'it returns false'. Refute it at one input. -/
def fnExactEitherWrong : ChangeSpec := { name := "fnExactEither", fn := fun _ => fun
  | [d1, d2] => { results := [.lit (.bool false)], args := [d1, d2] }
  | _ => none }
def FnExactEitherWrongFalsely : Prop := fnExactEitherRow.holds Try.pinned (OpenSpec.ofChange fnExactEitherWrong)

/-- 'laws.FnExactWithout': WHATEVER THE INPUT: true; the input reads as it did. -/
def fnExactWithoutSpec : ChangeSpec := { name := "fnExactWithout", fn := fun _ => fun
  | [d1, d2] => { results := [.lit (.bool true)], args := [d1, d2] }
  | _ => none }
def fnExactWithoutRow : OpenClaim := { program := "ytbiaddpmohlalaa", sum := "683ea6743eaebb9108acff163f788f5ac51fb76219eeaac9c7b2a5d8309b07e1", func := "loop.example/g00966/laws.FnExactWithout", spec := "fnExactWithout", apart := false }
def FnExactWithoutSaid : Prop := fnExactWithoutRow.holds Try.pinned (OpenSpec.ofChange fnExactWithoutSpec)

/-- ITS FALSE NEIGHBOUR: 'it returns false'. Refute it at one input. -/
def fnExactWithoutWrong : ChangeSpec := { name := "fnExactWithout", fn := fun _ => fun
  | [d1, d2] => { results := [.lit (.bool false)], args := [d1, d2] }
  | _ => none }
def FnExactWithoutWrongFalsely : Prop := fnExactWithoutRow.holds Try.pinned (OpenSpec.ofChange fnExactWithoutWrong)

/-- 'laws.FnExactSetOf': WHATEVER THE INPUT: true; the input reads as it did. -/
def fnExactSetOfSpec : ChangeSpec := { name := "fnExactSetOf", fn := fun _ => fun
  | [d] => { results := [.lit (.bool true)], args := [d] }
  | _ => none }
def fnExactSetOfRow : OpenClaim := { program := "ytbiaddpmohlalaa", sum := "683ea6743eaebb9108acff163f788f5ac51fb76219eeaac9c7b2a5d8309b07e1", func := "loop.example/g00966/laws.FnExactSetOf", spec := "fnExactSetOf", apart := false }
def FnExactSetOfSaid : Prop := fnExactSetOfRow.holds Try.pinned (OpenSpec.ofChange fnExactSetOfSpec)

/-- ITS FALSE NEIGHBOUR: 'it returns false'. Refute it at one input. -/
def fnExactSetOfWrong : ChangeSpec := { name := "fnExactSetOf", fn := fun _ => fun
  | [d] => { results := [.lit (.bool false)], args := [d] }
  | _ => none }
def FnExactSetOfWrongFalsely : Prop := fnExactSetOfRow.holds Try.pinned (OpenSpec.ofChange fnExactSetOfWrong)

/-- 'laws.FnExactRaceLess': WHATEVER THE INPUT: true; the input reads as it did. -/
def fnExactRaceLessSpec : ChangeSpec := { name := "fnExactRaceLess", fn := fun _ => fun
  | [d1, d2] => { results := [.lit (.bool true)], args := [d1, d2] }
  | _ => none }
def fnExactRaceLessRow : OpenClaim := { program := "ytbiaddpmohlalaa", sum := "683ea6743eaebb9108acff163f788f5ac51fb76219eeaac9c7b2a5d8309b07e1", func := "loop.example/g00966/laws.FnExactRaceLess", spec := "fnExactRaceLess", apart := false }
def FnExactRaceLessSaid : Prop := fnExactRaceLessRow.holds Try.pinned (OpenSpec.ofChange fnExactRaceLessSpec)

/-- ITS FALSE NEIGHBOUR: 'it returns false'. Refute it at one input. -/
def fnExactRaceLessWrong : ChangeSpec := { name := "fnExactRaceLess", fn := fun _ => fun
  | [d1, d2] => { results := [.lit (.bool false)], args := [d1, d2] }
  | _ => none }
def FnExactRaceLessWrongFalsely : Prop := fnExactRaceLessRow.holds Try.pinned (OpenSpec.ofChange fnExactRaceLessWrong)

/-- 'laws.FnExactListOf': WHATEVER THE INPUT: true; the input reads as it did. -/
def fnExactListOfSpec : ChangeSpec := { name := "fnExactListOf", fn := fun _ => fun
  | [d] => { results := [.lit (.bool true)], args := [d] }
  | _ => none }
def fnExactListOfRow : OpenClaim := { program := "ytbiaddpmohlalaa", sum := "683ea6743eaebb9108acff163f788f5ac51fb76219eeaac9c7b2a5d8309b07e1", func := "loop.example/g00966/laws.FnExactListOf", spec := "fnExactListOf", apart := false }
def FnExactListOfSaid : Prop := fnExactListOfRow.holds Try.pinned (OpenSpec.ofChange fnExactListOfSpec)

/-- ITS FALSE NEIGHBOUR: 'it returns false'. Refute it at one input. -/
def fnExactListOfWrong : ChangeSpec := { name := "fnExactListOf", fn := fun _ => fun
  | [d] => { results := [.lit (.bool false)], args := [d] }
  | _ => none }
def FnExactListOfWrongFalsely : Prop := fnExactListOfRow.holds Try.pinned (OpenSpec.ofChange fnExactListOfWrong)

/-- 'laws.FnExactCompsOf': WHATEVER THE INPUT: true; the input reads as it did. -/
def fnExactCompsOfSpec : ChangeSpec := { name := "fnExactCompsOf", fn := fun _ => fun
  | [d1, d2] => { results := [.lit (.bool true)], args := [d1, d2] }
  | _ => none }
def fnExactCompsOfRow : OpenClaim := { program := "ytbiaddpmohlalaa", sum := "683ea6743eaebb9108acff163f788f5ac51fb76219eeaac9c7b2a5d8309b07e1", func := "loop.example/g00966/laws.FnExactCompsOf", spec := "fnExactCompsOf", apart := false }
def FnExactCompsOfSaid : Prop := fnExactCompsOfRow.holds Try.pinned (OpenSpec.ofChange fnExactCompsOfSpec)

/-- ITS FALSE NEIGHBOUR: 'it returns false'. Refute it at one input. -/
def fnExactCompsOfWrong : ChangeSpec := { name := "fnExactCompsOf", fn := fun _ => fun
  | [d1, d2] => { results := [.lit (.bool false)], args := [d1, d2] }
  | _ => none }
def FnExactCompsOfWrongFalsely : Prop := fnExactCompsOfRow.holds Try.pinned (OpenSpec.ofChange fnExactCompsOfWrong)

/- THE SECOND FORM. 'bulk': how many values and letters a reading holds, each counted each time it is reached (what is shared counts as often as it is met; a slice's spare places count too). A statement '..UptoSaid' is the law's where the arguments, and the package variables that the reading takes, are together of bulk at most 1048576: NARROWER than '..Said'. Prove '..Said' where nothing that the law and all that it calls make is longer than what came in: it says more and counts as full. Else prove '..UptoSaid'. A law counts once. -/
mutual
def uptoBulk {H : Type} : DataW H → Nat
  | .lit (.string bytes) => bytes.length + 1
  | .lit _ => 1
  | .nil => 1
  | .ptr d => uptoBulk d + 1
  | .slice elems spare => uptoBulkAll elems + uptoBulkAll spare + 1
  | .agg parts => uptoBulkAll parts + 1
  | .iface _ d => uptoBulk d + 1
  | .map entries => uptoBulkEntries entries + 1
  | .held _ => 1
def uptoBulkAll {H : Type} : List (DataW H) → Nat
  | [] => 0
  | d :: r => uptoBulk d + uptoBulkAll r
def uptoBulkEntries {H : Type} : List (Lit × DataW H) → Nat
  | [] => 0
  | x :: r => uptoBulkEntry x + uptoBulkEntries r
def uptoBulkEntry {H : Type} : Lit × DataW H → Nat
  | (.string bytes, d) => bytes.length + uptoBulk d + 1
  | (_, d) => uptoBulk d + 1
 end
def uptoSmall : (H : Type) → List (DataW H) → Bool := fun _ ds => decide (uptoBulkAll ds ≤ 1048576)
def OpenSpec.upto (s : _root_.Go.ChangeSpec) : _root_.Go.OpenSpec := { _root_.Go.OpenSpec.ofChange s with cond := some uptoSmall }

/-- 'laws.FnExactWithin', WHERE WHAT IT READS IS OF BULK AT MOST 1048576: true; the input reads as it did. -/
def fnExactWithinUptoRow : OpenClaim := { program := "ytbiaddpmohlalaa", sum := "683ea6743eaebb9108acff163f788f5ac51fb76219eeaac9c7b2a5d8309b07e1", func := "loop.example/g00966/laws.FnExactWithin", spec := "fnExactWithin", apart := false, narrowed := true }
def FnExactWithinUptoSaid : Prop := fnExactWithinUptoRow.holds Try.pinned (OpenSpec.upto fnExactWithinSpec)

/-- 'laws.FnExactInSet', WHERE WHAT IT READS IS OF BULK AT MOST 1048576: true; the input reads as it did. -/
def fnExactInSetUptoRow : OpenClaim := { program := "ytbiaddpmohlalaa", sum := "683ea6743eaebb9108acff163f788f5ac51fb76219eeaac9c7b2a5d8309b07e1", func := "loop.example/g00966/laws.FnExactInSet", spec := "fnExactInSet", apart := false, narrowed := true }
def FnExactInSetUptoSaid : Prop := fnExactInSetUptoRow.holds Try.pinned (OpenSpec.upto fnExactInSetSpec)

/-- 'laws.FnExactBoth', WHERE WHAT IT READS IS OF BULK AT MOST 1048576: true; the input reads as it did. -/
def fnExactBothUptoRow : OpenClaim := { program := "ytbiaddpmohlalaa", sum := "683ea6743eaebb9108acff163f788f5ac51fb76219eeaac9c7b2a5d8309b07e1", func := "loop.example/g00966/laws.FnExactBoth", spec := "fnExactBoth", apart := false, narrowed := true }
def FnExactBothUptoSaid : Prop := fnExactBothUptoRow.holds Try.pinned (OpenSpec.upto fnExactBothSpec)

/-- 'laws.FnExactEither', WHERE WHAT IT READS IS OF BULK AT MOST 1048576: true; the input reads as it did. -/
def fnExactEitherUptoRow : OpenClaim := { program := "ytbiaddpmohlalaa", sum := "683ea6743eaebb9108acff163f788f5ac51fb76219eeaac9c7b2a5d8309b07e1", func := "loop.example/g00966/laws.FnExactEither", spec := "fnExactEither", apart := false, narrowed := true }
def FnExactEitherUptoSaid : Prop := fnExactEitherUptoRow.holds Try.pinned (OpenSpec.upto fnExactEitherSpec)

/-- 'laws.FnExactWithout', WHERE WHAT IT READS IS OF BULK AT MOST 1048576: true; the input reads as it did. -/
def fnExactWithoutUptoRow : OpenClaim := { program := "ytbiaddpmohlalaa", sum := "683ea6743eaebb9108acff163f788f5ac51fb76219eeaac9c7b2a5d8309b07e1", func := "loop.example/g00966/laws.FnExactWithout", spec := "fnExactWithout", apart := false, narrowed := true }
def FnExactWithoutUptoSaid : Prop := fnExactWithoutUptoRow.holds Try.pinned (OpenSpec.upto fnExactWithoutSpec)

/-- 'laws.FnExactSetOf', WHERE WHAT IT READS IS OF BULK AT MOST 1048576: true; the input reads as it did. -/
def fnExactSetOfUptoRow : OpenClaim := { program := "ytbiaddpmohlalaa", sum := "683ea6743eaebb9108acff163f788f5ac51fb76219eeaac9c7b2a5d8309b07e1", func := "loop.example/g00966/laws.FnExactSetOf", spec := "fnExactSetOf", apart := false, narrowed := true }
def FnExactSetOfUptoSaid : Prop := fnExactSetOfUptoRow.holds Try.pinned (OpenSpec.upto fnExactSetOfSpec)

/-- 'laws.FnExactRaceLess', WHERE WHAT IT READS IS OF BULK AT MOST 1048576: true; the input reads as it did. -/
def fnExactRaceLessUptoRow : OpenClaim := { program := "ytbiaddpmohlalaa", sum := "683ea6743eaebb9108acff163f788f5ac51fb76219eeaac9c7b2a5d8309b07e1", func := "loop.example/g00966/laws.FnExactRaceLess", spec := "fnExactRaceLess", apart := false, narrowed := true }
def FnExactRaceLessUptoSaid : Prop := fnExactRaceLessUptoRow.holds Try.pinned (OpenSpec.upto fnExactRaceLessSpec)

/-- 'laws.FnExactListOf', WHERE WHAT IT READS IS OF BULK AT MOST 1048576: true; the input reads as it did. -/
def fnExactListOfUptoRow : OpenClaim := { program := "ytbiaddpmohlalaa", sum := "683ea6743eaebb9108acff163f788f5ac51fb76219eeaac9c7b2a5d8309b07e1", func := "loop.example/g00966/laws.FnExactListOf", spec := "fnExactListOf", apart := false, narrowed := true }
def FnExactListOfUptoSaid : Prop := fnExactListOfUptoRow.holds Try.pinned (OpenSpec.upto fnExactListOfSpec)

/-- 'laws.FnExactCompsOf', WHERE WHAT IT READS IS OF BULK AT MOST 1048576: true; the input reads as it did. -/
def fnExactCompsOfUptoRow : OpenClaim := { program := "ytbiaddpmohlalaa", sum := "683ea6743eaebb9108acff163f788f5ac51fb76219eeaac9c7b2a5d8309b07e1", func := "loop.example/g00966/laws.FnExactCompsOf", spec := "fnExactCompsOf", apart := false, narrowed := true }
def FnExactCompsOfUptoSaid : Prop := fnExactCompsOfUptoRow.holds Try.pinned (OpenSpec.upto fnExactCompsOfSpec)

end Rows
end Go.Proofs.Ytbiaddpmohlalaa
