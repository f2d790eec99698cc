/-
  NARROWER THAN 'FOR EVERY INPUT', by the rows' own cells (each row's printed sentence says how): FnExactMayAt: loops · FnExactMetIn: loops · FnExactBeside: loops · FnExactMayOf: loops · FnExactFromEntry: loops.
  DERIVED. THE GIVEN ROWS OF THIS SEAT. 5 by the template 'for every input the law returns true; each argument reads behind the call as it read before'; 0 by the template 'total and deterministic' (their statements: YtfecdgjnncpcjaaTotals.lean).
  GIVEN WITH THE SEED: the statements are not yours to turn. If you find one false, say at which input.
  Laid BY PROGRAM, IN A SANDBOX (cutbox-rows.mjs): the forced cells as the released guide's own fill.sh prints them over the translation 0f13dc9aa1afe860… (all of the seat's roots in one cut). By AI agents, Wed Nov 11 2026. No macro, syntax, notation, axiom, sorry.
-/
import Derived.Test.YtfecdgjnncpcjaaChecked
import GoSem.Claim
import GoSem.ClaimJoined
import GoSem.ClaimMapViews
import Derived.JoinedTies
import Derived.KernelRfl
namespace Go.Proofs.Ytfecdgjnncpcjaa
/- THE CELL 'sum', in the pinned program and in every row, IS THE sha256 OF THE DUMP (.gsa) THAT YtfecdgjnncpcjaaProg.lean LOADS. Nothing in Lean hashes anything: it is a label: what it is worth is what the hold of that sum in a sandbox is worth. -/
noncomputable def Try.pinned : Pinned := { name := "ytfecdgjnncpcjaa", sum := "0f13dc9aa1afe860c158365ee15f9478fb002ab0e9d2c3be6cd47d800b9994ee", checked := Try.checked }
namespace Rows
def none {H : Type} : Left H := { results := [], args := [] }

/-- 'laws.FnExactMayAt': WHATEVER THE INPUT: true; the input reads as it did. -/
def fnExactMayAtSpec : ChangeSpec := { name := "fnExactMayAt", fn := fun _ => fun
  | [d1, d2] => { results := [.lit (.bool true)], args := [d1, d2] }
  | _ => none }
def fnExactMayAtRow : OpenClaim := { program := "ytfecdgjnncpcjaa", sum := "0f13dc9aa1afe860c158365ee15f9478fb002ab0e9d2c3be6cd47d800b9994ee", func := "loop.example/g00966/laws.FnExactMayAt", spec := "fnExactMayAt", unfollowed := true, recurses := true, loops := true, apart := false }
def FnExactMayAtSaid : Prop := fnExactMayAtRow.holds Try.pinned (OpenSpec.ofChange fnExactMayAtSpec)

/-- ITS FALSE NEIGHBOUR: 'it returns false'. Refute it at one input. -/
def fnExactMayAtWrong : ChangeSpec := { name := "fnExactMayAt", fn := fun _ => fun
  | [d1, d2] => { results := [.lit (.bool false)], args := [d1, d2] }
  | _ => none }
def FnExactMayAtWrongFalsely : Prop := fnExactMayAtRow.holds Try.pinned (OpenSpec.ofChange fnExactMayAtWrong)

/-- 'laws.FnExactMetIn': WHATEVER THE INPUT: true; the input reads as it did. -/
def fnExactMetInSpec : ChangeSpec := { name := "fnExactMetIn", fn := fun _ => fun
  | [d] => { results := [.lit (.bool true)], args := [d] }
  | _ => none }
def fnExactMetInRow : OpenClaim := { program := "ytfecdgjnncpcjaa", sum := "0f13dc9aa1afe860c158365ee15f9478fb002ab0e9d2c3be6cd47d800b9994ee", func := "loop.example/g00966/laws.FnExactMetIn", spec := "fnExactMetIn", unfollowed := true, recurses := true, loops := true, apart := false }
def FnExactMetInSaid : Prop := fnExactMetInRow.holds Try.pinned (OpenSpec.ofChange fnExactMetInSpec)

/-- ITS FALSE NEIGHBOUR: 'it returns false'. Refute it at one input. -/
def fnExactMetInWrong : ChangeSpec := { name := "fnExactMetIn", fn := fun _ => fun
  | [d] => { results := [.lit (.bool false)], args := [d] }
  | _ => none }
def FnExactMetInWrongFalsely : Prop := fnExactMetInRow.holds Try.pinned (OpenSpec.ofChange fnExactMetInWrong)

/-- 'laws.FnExactBeside': WHATEVER THE INPUT: true; the input reads as it did. -/
def fnExactBesideSpec : ChangeSpec := { name := "fnExactBeside", fn := fun _ => fun
  | [d1, d2, d3] => { results := [.lit (.bool true)], args := [d1, d2, d3] }
  | _ => none }
def fnExactBesideRow : OpenClaim := { program := "ytfecdgjnncpcjaa", sum := "0f13dc9aa1afe860c158365ee15f9478fb002ab0e9d2c3be6cd47d800b9994ee", func := "loop.example/g00966/laws.FnExactBeside", spec := "fnExactBeside", recurses := true, loops := true, apart := false }
def FnExactBesideSaid : Prop := fnExactBesideRow.holds Try.pinned (OpenSpec.ofChange fnExactBesideSpec)

/-- ITS FALSE NEIGHBOUR: 'it returns false'. Refute it at one input. -/
def fnExactBesideWrong : ChangeSpec := { name := "fnExactBeside", fn := fun _ => fun
  | [d1, d2, d3] => { results := [.lit (.bool false)], args := [d1, d2, d3] }
  | _ => none }
def FnExactBesideWrongFalsely : Prop := fnExactBesideRow.holds Try.pinned (OpenSpec.ofChange fnExactBesideWrong)

/-- 'laws.FnExactMayOf': WHATEVER THE INPUT: true; the input reads as it did. -/
def fnExactMayOfSpec : ChangeSpec := { name := "fnExactMayOf", fn := fun _ => fun
  | [d] => { results := [.lit (.bool true)], args := [d] }
  | _ => none }
def fnExactMayOfRow : OpenClaim := { program := "ytfecdgjnncpcjaa", sum := "0f13dc9aa1afe860c158365ee15f9478fb002ab0e9d2c3be6cd47d800b9994ee", func := "loop.example/g00966/laws.FnExactMayOf", spec := "fnExactMayOf", unfollowed := true, recurses := true, loops := true, apart := false }
def FnExactMayOfSaid : Prop := fnExactMayOfRow.holds Try.pinned (OpenSpec.ofChange fnExactMayOfSpec)

/-- ITS FALSE NEIGHBOUR: 'it returns false'. Refute it at one input. -/
def fnExactMayOfWrong : ChangeSpec := { name := "fnExactMayOf", fn := fun _ => fun
  | [d] => { results := [.lit (.bool false)], args := [d] }
  | _ => none }
def FnExactMayOfWrongFalsely : Prop := fnExactMayOfRow.holds Try.pinned (OpenSpec.ofChange fnExactMayOfWrong)

/-- 'laws.FnExactFromEntry': WHATEVER THE INPUT: true; the input reads as it did. -/
def fnExactFromEntrySpec : ChangeSpec := { name := "fnExactFromEntry", fn := fun _ => fun
  | [d1, d2, d3, d4] => { results := [.lit (.bool true)], args := [d1, d2, d3, d4] }
  | _ => none }
def fnExactFromEntryRow : OpenClaim := { program := "ytfecdgjnncpcjaa", sum := "0f13dc9aa1afe860c158365ee15f9478fb002ab0e9d2c3be6cd47d800b9994ee", func := "loop.example/g00966/laws.FnExactFromEntry", spec := "fnExactFromEntry", recurses := true, loops := true, apart := false }
def FnExactFromEntrySaid : Prop := fnExactFromEntryRow.holds Try.pinned (OpenSpec.ofChange fnExactFromEntrySpec)

/-- ITS FALSE NEIGHBOUR: 'it returns false'. Refute it at one input. -/
def fnExactFromEntryWrong : ChangeSpec := { name := "fnExactFromEntry", fn := fun _ => fun
  | [d1, d2, d3, d4] => { results := [.lit (.bool false)], args := [d1, d2, d3, d4] }
  | _ => none }
def FnExactFromEntryWrongFalsely : Prop := fnExactFromEntryRow.holds Try.pinned (OpenSpec.ofChange fnExactFromEntryWrong)

/- THE SECOND FORM. 'bulk': how many values and letters a reading holds, each counted each time it is reached (what is shared counts as often as it is met; a slice's spare places count too). A statement '..UptoSaid' is the law's where the arguments, and the package variables that the reading takes, are together of bulk at most 1048576: NARROWER than '..Said'. Prove '..Said' where nothing that the law and all that it calls make is longer than what came in: it says more and counts as full. Else prove '..UptoSaid'. A law counts once. -/
mutual
def uptoBulk {H : Type} : DataW H → Nat
  | .lit (.string bytes) => bytes.length + 1
  | .lit _ => 1
  | .nil => 1
  | .ptr d => uptoBulk d + 1
  | .slice elems spare => uptoBulkAll elems + uptoBulkAll spare + 1
  | .agg parts => uptoBulkAll parts + 1
  | .iface _ d => uptoBulk d + 1
  | .map entries => uptoBulkEntries entries + 1
  | .held _ => 1
def uptoBulkAll {H : Type} : List (DataW H) → Nat
  | [] => 0
  | d :: r => uptoBulk d + uptoBulkAll r
def uptoBulkEntries {H : Type} : List (Lit × DataW H) → Nat
  | [] => 0
  | x :: r => uptoBulkEntry x + uptoBulkEntries r
def uptoBulkEntry {H : Type} : Lit × DataW H → Nat
  | (.string bytes, d) => bytes.length + uptoBulk d + 1
  | (_, d) => uptoBulk d + 1
 end
def uptoSmall : (H : Type) → List (DataW H) → Bool := fun _ ds => decide (uptoBulkAll ds ≤ 1048576)
def OpenSpec.upto (s : _root_.Go.ChangeSpec) : _root_.Go.OpenSpec := { _root_.Go.OpenSpec.ofChange s with cond := some uptoSmall }

/-- 'laws.FnExactMayAt', WHERE WHAT IT READS IS OF BULK AT MOST 1048576: true; the input reads as it did. -/
def fnExactMayAtUptoRow : OpenClaim := { program := "ytfecdgjnncpcjaa", sum := "0f13dc9aa1afe860c158365ee15f9478fb002ab0e9d2c3be6cd47d800b9994ee", func := "loop.example/g00966/laws.FnExactMayAt", spec := "fnExactMayAt", unfollowed := true, recurses := true, loops := true, apart := false, narrowed := true }
def FnExactMayAtUptoSaid : Prop := fnExactMayAtUptoRow.holds Try.pinned (OpenSpec.upto fnExactMayAtSpec)

/-- 'laws.FnExactMetIn', WHERE WHAT IT READS IS OF BULK AT MOST 1048576: true; the input reads as it did. -/
def fnExactMetInUptoRow : OpenClaim := { program := "ytfecdgjnncpcjaa", sum := "0f13dc9aa1afe860c158365ee15f9478fb002ab0e9d2c3be6cd47d800b9994ee", func := "loop.example/g00966/laws.FnExactMetIn", spec := "fnExactMetIn", unfollowed := true, recurses := true, loops := true, apart := false, narrowed := true }
def FnExactMetInUptoSaid : Prop := fnExactMetInUptoRow.holds Try.pinned (OpenSpec.upto fnExactMetInSpec)

/-- 'laws.FnExactBeside', WHERE WHAT IT READS IS OF BULK AT MOST 1048576: true; the input reads as it did. -/
def fnExactBesideUptoRow : OpenClaim := { program := "ytfecdgjnncpcjaa", sum := "0f13dc9aa1afe860c158365ee15f9478fb002ab0e9d2c3be6cd47d800b9994ee", func := "loop.example/g00966/laws.FnExactBeside", spec := "fnExactBeside", recurses := true, loops := true, apart := false, narrowed := true }
def FnExactBesideUptoSaid : Prop := fnExactBesideUptoRow.holds Try.pinned (OpenSpec.upto fnExactBesideSpec)

/-- 'laws.FnExactMayOf', WHERE WHAT IT READS IS OF BULK AT MOST 1048576: true; the input reads as it did. -/
def fnExactMayOfUptoRow : OpenClaim := { program := "ytfecdgjnncpcjaa", sum := "0f13dc9aa1afe860c158365ee15f9478fb002ab0e9d2c3be6cd47d800b9994ee", func := "loop.example/g00966/laws.FnExactMayOf", spec := "fnExactMayOf", unfollowed := true, recurses := true, loops := true, apart := false, narrowed := true }
def FnExactMayOfUptoSaid : Prop := fnExactMayOfUptoRow.holds Try.pinned (OpenSpec.upto fnExactMayOfSpec)

/-- 'laws.FnExactFromEntry', WHERE WHAT IT READS IS OF BULK AT MOST 1048576: true; the input reads as it did. -/
def fnExactFromEntryUptoRow : OpenClaim := { program := "ytfecdgjnncpcjaa", sum := "0f13dc9aa1afe860c158365ee15f9478fb002ab0e9d2c3be6cd47d800b9994ee", func := "loop.example/g00966/laws.FnExactFromEntry", spec := "fnExactFromEntry", recurses := true, loops := true, apart := false, narrowed := true }
def FnExactFromEntryUptoSaid : Prop := fnExactFromEntryUptoRow.holds Try.pinned (OpenSpec.upto fnExactFromEntrySpec)

end Rows
end Go.Proofs.Ytfecdgjnncpcjaa
