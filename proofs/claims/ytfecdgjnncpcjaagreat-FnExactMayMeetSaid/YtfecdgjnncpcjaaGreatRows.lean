/-
  NARROWER THAN 'FOR EVERY INPUT', by the rows' own cells (each row's printed sentence says how): FnExactMayMeet: loops · FnExactEffectsOf: loops · FnExactMustAt: loops · FnExactEntriesOf: loops · FnExactMustOf: loops · FnExactTouchesAt: loops · FnExactTouchesOf: loops.
  DERIVED. THE GIVEN ROWS OF THIS SEAT. 7 by the template 'for every input the law returns true; each argument reads behind the call as it read before'; 0 by the template 'total and deterministic' (their statements: YtfecdgjnncpcjaaGreatTotals.lean).
  GIVEN WITH THE SEED: the statements are not yours to turn. If you find one false, say at which input.
  Laid BY PROGRAM, IN A SANDBOX (cutbox-rows.mjs): the forced cells as the released guide's own fill.sh prints them over the translation eb69470eab6c8c1e… (all of the seat's roots in one cut). By AI agents, Wed Nov 11 2026. No macro, syntax, notation, axiom, sorry.
-/
import Derived.Test.YtfecdgjnncpcjaaGreatChecked
import GoSem.Claim
import GoSem.ClaimJoined
import GoSem.ClaimMapViews
import Derived.JoinedTies
import Derived.KernelRfl
namespace Go.Proofs.YtfecdgjnncpcjaaGreat
/- THE CELL 'sum', in the pinned program and in every row, IS THE sha256 OF THE DUMP (.gsa) THAT YtfecdgjnncpcjaaGreatProg.lean LOADS. Nothing in Lean hashes anything: it is a label: what it is worth is what the hold of that sum in a sandbox is worth. -/
noncomputable def Tryz.pinned : Pinned := { name := "ytfecdgjnncpcjaagreat", sum := "eb69470eab6c8c1e00f14bf8246c73ae9fbd6ea72b15b4d2be7783a142e346e8", checked := Tryz.checked }
namespace Rows
def none {H : Type} : Left H := { results := [], args := [] }

/-- 'laws.FnExactMayMeet': WHATEVER THE INPUT: true; the input reads as it did. -/
def fnExactMayMeetSpec : ChangeSpec := { name := "fnExactMayMeet", fn := fun _ => fun
  | [d1, d2, d3] => { results := [.lit (.bool true)], args := [d1, d2, d3] }
  | _ => none }
def fnExactMayMeetRow : OpenClaim := { program := "ytfecdgjnncpcjaagreat", sum := "eb69470eab6c8c1e00f14bf8246c73ae9fbd6ea72b15b4d2be7783a142e346e8", func := "loop.example/g00966/laws.FnExactMayMeet", spec := "fnExactMayMeet", recurses := true, loops := true, apart := false }
def FnExactMayMeetSaid : Prop := fnExactMayMeetRow.holds Tryz.pinned (OpenSpec.ofChange fnExactMayMeetSpec)

/-- ITS FALSE NEIGHBOUR: 'it returns false'. Refute it at one input. -/
def fnExactMayMeetWrong : ChangeSpec := { name := "fnExactMayMeet", fn := fun _ => fun
  | [d1, d2, d3] => { results := [.lit (.bool false)], args := [d1, d2, d3] }
  | _ => none }
def FnExactMayMeetWrongFalsely : Prop := fnExactMayMeetRow.holds Tryz.pinned (OpenSpec.ofChange fnExactMayMeetWrong)

/-- 'laws.FnExactEffectsOf': WHATEVER THE INPUT: true; the input reads as it did. -/
def fnExactEffectsOfSpec : ChangeSpec := { name := "fnExactEffectsOf", fn := fun _ => fun
  | [d] => { results := [.lit (.bool true)], args := [d] }
  | _ => none }
def fnExactEffectsOfRow : OpenClaim := { program := "ytfecdgjnncpcjaagreat", sum := "eb69470eab6c8c1e00f14bf8246c73ae9fbd6ea72b15b4d2be7783a142e346e8", func := "loop.example/g00966/laws.FnExactEffectsOf", spec := "fnExactEffectsOf", recurses := true, loops := true, apart := false }
def FnExactEffectsOfSaid : Prop := fnExactEffectsOfRow.holds Tryz.pinned (OpenSpec.ofChange fnExactEffectsOfSpec)

/-- ITS FALSE NEIGHBOUR: 'it returns false'. Refute it at one input. -/
def fnExactEffectsOfWrong : ChangeSpec := { name := "fnExactEffectsOf", fn := fun _ => fun
  | [d] => { results := [.lit (.bool false)], args := [d] }
  | _ => none }
def FnExactEffectsOfWrongFalsely : Prop := fnExactEffectsOfRow.holds Tryz.pinned (OpenSpec.ofChange fnExactEffectsOfWrong)

/-- 'laws.FnExactMustAt': WHATEVER THE INPUT: true; the input reads as it did. -/
def fnExactMustAtSpec : ChangeSpec := { name := "fnExactMustAt", fn := fun _ => fun
  | [d1, d2] => { results := [.lit (.bool true)], args := [d1, d2] }
  | _ => none }
def fnExactMustAtRow : OpenClaim := { program := "ytfecdgjnncpcjaagreat", sum := "eb69470eab6c8c1e00f14bf8246c73ae9fbd6ea72b15b4d2be7783a142e346e8", func := "loop.example/g00966/laws.FnExactMustAt", spec := "fnExactMustAt", recurses := true, loops := true, apart := false }
def FnExactMustAtSaid : Prop := fnExactMustAtRow.holds Tryz.pinned (OpenSpec.ofChange fnExactMustAtSpec)

/-- ITS FALSE NEIGHBOUR: 'it returns false'. Refute it at one input. -/
def fnExactMustAtWrong : ChangeSpec := { name := "fnExactMustAt", fn := fun _ => fun
  | [d1, d2] => { results := [.lit (.bool false)], args := [d1, d2] }
  | _ => none }
def FnExactMustAtWrongFalsely : Prop := fnExactMustAtRow.holds Tryz.pinned (OpenSpec.ofChange fnExactMustAtWrong)

/-- 'laws.FnExactEntriesOf': WHATEVER THE INPUT: true; the input reads as it did. -/
def fnExactEntriesOfSpec : ChangeSpec := { name := "fnExactEntriesOf", fn := fun _ => fun
  | [d] => { results := [.lit (.bool true)], args := [d] }
  | _ => none }
def fnExactEntriesOfRow : OpenClaim := { program := "ytfecdgjnncpcjaagreat", sum := "eb69470eab6c8c1e00f14bf8246c73ae9fbd6ea72b15b4d2be7783a142e346e8", func := "loop.example/g00966/laws.FnExactEntriesOf", spec := "fnExactEntriesOf", recurses := true, loops := true, apart := false }
def FnExactEntriesOfSaid : Prop := fnExactEntriesOfRow.holds Tryz.pinned (OpenSpec.ofChange fnExactEntriesOfSpec)

/-- ITS FALSE NEIGHBOUR: 'it returns false'. Refute it at one input. -/
def fnExactEntriesOfWrong : ChangeSpec := { name := "fnExactEntriesOf", fn := fun _ => fun
  | [d] => { results := [.lit (.bool false)], args := [d] }
  | _ => none }
def FnExactEntriesOfWrongFalsely : Prop := fnExactEntriesOfRow.holds Tryz.pinned (OpenSpec.ofChange fnExactEntriesOfWrong)

/-- 'laws.FnExactMustOf': WHATEVER THE INPUT: true; the input reads as it did. -/
def fnExactMustOfSpec : ChangeSpec := { name := "fnExactMustOf", fn := fun _ => fun
  | [d] => { results := [.lit (.bool true)], args := [d] }
  | _ => none }
def fnExactMustOfRow : OpenClaim := { program := "ytfecdgjnncpcjaagreat", sum := "eb69470eab6c8c1e00f14bf8246c73ae9fbd6ea72b15b4d2be7783a142e346e8", func := "loop.example/g00966/laws.FnExactMustOf", spec := "fnExactMustOf", recurses := true, loops := true, apart := false }
def FnExactMustOfSaid : Prop := fnExactMustOfRow.holds Tryz.pinned (OpenSpec.ofChange fnExactMustOfSpec)

/-- ITS FALSE NEIGHBOUR: 'it returns false'. Refute it at one input. -/
def fnExactMustOfWrong : ChangeSpec := { name := "fnExactMustOf", fn := fun _ => fun
  | [d] => { results := [.lit (.bool false)], args := [d] }
  | _ => none }
def FnExactMustOfWrongFalsely : Prop := fnExactMustOfRow.holds Tryz.pinned (OpenSpec.ofChange fnExactMustOfWrong)

/-- 'laws.FnExactTouchesAt': WHATEVER THE INPUT: true; the input reads as it did. -/
def fnExactTouchesAtSpec : ChangeSpec := { name := "fnExactTouchesAt", fn := fun _ => fun
  | [d1, d2] => { results := [.lit (.bool true)], args := [d1, d2] }
  | _ => none }
def fnExactTouchesAtRow : OpenClaim := { program := "ytfecdgjnncpcjaagreat", sum := "eb69470eab6c8c1e00f14bf8246c73ae9fbd6ea72b15b4d2be7783a142e346e8", func := "loop.example/g00966/laws.FnExactTouchesAt", spec := "fnExactTouchesAt", recurses := true, loops := true, apart := false }
def FnExactTouchesAtSaid : Prop := fnExactTouchesAtRow.holds Tryz.pinned (OpenSpec.ofChange fnExactTouchesAtSpec)

/-- ITS FALSE NEIGHBOUR: 'it returns false'. Refute it at one input. -/
def fnExactTouchesAtWrong : ChangeSpec := { name := "fnExactTouchesAt", fn := fun _ => fun
  | [d1, d2] => { results := [.lit (.bool false)], args := [d1, d2] }
  | _ => none }
def FnExactTouchesAtWrongFalsely : Prop := fnExactTouchesAtRow.holds Tryz.pinned (OpenSpec.ofChange fnExactTouchesAtWrong)

/-- 'laws.FnExactTouchesOf': WHATEVER THE INPUT: true; the input reads as it did. -/
def fnExactTouchesOfSpec : ChangeSpec := { name := "fnExactTouchesOf", fn := fun _ => fun
  | [d] => { results := [.lit (.bool true)], args := [d] }
  | _ => none }
def fnExactTouchesOfRow : OpenClaim := { program := "ytfecdgjnncpcjaagreat", sum := "eb69470eab6c8c1e00f14bf8246c73ae9fbd6ea72b15b4d2be7783a142e346e8", func := "loop.example/g00966/laws.FnExactTouchesOf", spec := "fnExactTouchesOf", unfollowed := true, recurses := true, loops := true, apart := false }
def FnExactTouchesOfSaid : Prop := fnExactTouchesOfRow.holds Tryz.pinned (OpenSpec.ofChange fnExactTouchesOfSpec)

/-- ITS FALSE NEIGHBOUR: 'it returns false'. Refute it at one input. -/
def fnExactTouchesOfWrong : ChangeSpec := { name := "fnExactTouchesOf", fn := fun _ => fun
  | [d] => { results := [.lit (.bool false)], args := [d] }
  | _ => none }
def FnExactTouchesOfWrongFalsely : Prop := fnExactTouchesOfRow.holds Tryz.pinned (OpenSpec.ofChange fnExactTouchesOfWrong)

/- THE SECOND FORM. 'bulk': how many values and letters a reading holds, each counted each time it is reached (what is shared counts as often as it is met; a slice's spare places count too). A statement '..UptoSaid' is the law's where the arguments, and the package variables that the reading takes, are together of bulk at most 1048576: NARROWER than '..Said'. Prove '..Said' where nothing that the law and all that it calls make is longer than what came in: it says more and counts as full. Else prove '..UptoSaid'. A law counts once. -/
mutual
def uptoBulk {H : Type} : DataW H → Nat
  | .lit (.string bytes) => bytes.length + 1
  | .lit _ => 1
  | .nil => 1
  | .ptr d => uptoBulk d + 1
  | .slice elems spare => uptoBulkAll elems + uptoBulkAll spare + 1
  | .agg parts => uptoBulkAll parts + 1
  | .iface _ d => uptoBulk d + 1
  | .map entries => uptoBulkEntries entries + 1
  | .held _ => 1
def uptoBulkAll {H : Type} : List (DataW H) → Nat
  | [] => 0
  | d :: r => uptoBulk d + uptoBulkAll r
def uptoBulkEntries {H : Type} : List (Lit × DataW H) → Nat
  | [] => 0
  | x :: r => uptoBulkEntry x + uptoBulkEntries r
def uptoBulkEntry {H : Type} : Lit × DataW H → Nat
  | (.string bytes, d) => bytes.length + uptoBulk d + 1
  | (_, d) => uptoBulk d + 1
 end
def uptoSmall : (H : Type) → List (DataW H) → Bool := fun _ ds => decide (uptoBulkAll ds ≤ 1048576)
def OpenSpec.upto (s : _root_.Go.ChangeSpec) : _root_.Go.OpenSpec := { _root_.Go.OpenSpec.ofChange s with cond := some uptoSmall }

/-- 'laws.FnExactMayMeet', WHERE WHAT IT READS IS OF BULK AT MOST 1048576: true; the input reads as it did. -/
def fnExactMayMeetUptoRow : OpenClaim := { program := "ytfecdgjnncpcjaagreat", sum := "eb69470eab6c8c1e00f14bf8246c73ae9fbd6ea72b15b4d2be7783a142e346e8", func := "loop.example/g00966/laws.FnExactMayMeet", spec := "fnExactMayMeet", recurses := true, loops := true, apart := false, narrowed := true }
def FnExactMayMeetUptoSaid : Prop := fnExactMayMeetUptoRow.holds Tryz.pinned (OpenSpec.upto fnExactMayMeetSpec)

/-- 'laws.FnExactEffectsOf', WHERE WHAT IT READS IS OF BULK AT MOST 1048576: true; the input reads as it did. -/
def fnExactEffectsOfUptoRow : OpenClaim := { program := "ytfecdgjnncpcjaagreat", sum := "eb69470eab6c8c1e00f14bf8246c73ae9fbd6ea72b15b4d2be7783a142e346e8", func := "loop.example/g00966/laws.FnExactEffectsOf", spec := "fnExactEffectsOf", recurses := true, loops := true, apart := false, narrowed := true }
def FnExactEffectsOfUptoSaid : Prop := fnExactEffectsOfUptoRow.holds Tryz.pinned (OpenSpec.upto fnExactEffectsOfSpec)

/-- 'laws.FnExactMustAt', WHERE WHAT IT READS IS OF BULK AT MOST 1048576: true; the input reads as it did. -/
def fnExactMustAtUptoRow : OpenClaim := { program := "ytfecdgjnncpcjaagreat", sum := "eb69470eab6c8c1e00f14bf8246c73ae9fbd6ea72b15b4d2be7783a142e346e8", func := "loop.example/g00966/laws.FnExactMustAt", spec := "fnExactMustAt", recurses := true, loops := true, apart := false, narrowed := true }
def FnExactMustAtUptoSaid : Prop := fnExactMustAtUptoRow.holds Tryz.pinned (OpenSpec.upto fnExactMustAtSpec)

/-- 'laws.FnExactEntriesOf', WHERE WHAT IT READS IS OF BULK AT MOST 1048576: true; the input reads as it did. -/
def fnExactEntriesOfUptoRow : OpenClaim := { program := "ytfecdgjnncpcjaagreat", sum := "eb69470eab6c8c1e00f14bf8246c73ae9fbd6ea72b15b4d2be7783a142e346e8", func := "loop.example/g00966/laws.FnExactEntriesOf", spec := "fnExactEntriesOf", recurses := true, loops := true, apart := false, narrowed := true }
def FnExactEntriesOfUptoSaid : Prop := fnExactEntriesOfUptoRow.holds Tryz.pinned (OpenSpec.upto fnExactEntriesOfSpec)

/-- 'laws.FnExactMustOf', WHERE WHAT IT READS IS OF BULK AT MOST 1048576: true; the input reads as it did. -/
def fnExactMustOfUptoRow : OpenClaim := { program := "ytfecdgjnncpcjaagreat", sum := "eb69470eab6c8c1e00f14bf8246c73ae9fbd6ea72b15b4d2be7783a142e346e8", func := "loop.example/g00966/laws.FnExactMustOf", spec := "fnExactMustOf", recurses := true, loops := true, apart := false, narrowed := true }
def FnExactMustOfUptoSaid : Prop := fnExactMustOfUptoRow.holds Tryz.pinned (OpenSpec.upto fnExactMustOfSpec)

/-- 'laws.FnExactTouchesAt', WHERE WHAT IT READS IS OF BULK AT MOST 1048576: true; the input reads as it did. -/
def fnExactTouchesAtUptoRow : OpenClaim := { program := "ytfecdgjnncpcjaagreat", sum := "eb69470eab6c8c1e00f14bf8246c73ae9fbd6ea72b15b4d2be7783a142e346e8", func := "loop.example/g00966/laws.FnExactTouchesAt", spec := "fnExactTouchesAt", recurses := true, loops := true, apart := false, narrowed := true }
def FnExactTouchesAtUptoSaid : Prop := fnExactTouchesAtUptoRow.holds Tryz.pinned (OpenSpec.upto fnExactTouchesAtSpec)

/-- 'laws.FnExactTouchesOf', WHERE WHAT IT READS IS OF BULK AT MOST 1048576: true; the input reads as it did. -/
def fnExactTouchesOfUptoRow : OpenClaim := { program := "ytfecdgjnncpcjaagreat", sum := "eb69470eab6c8c1e00f14bf8246c73ae9fbd6ea72b15b4d2be7783a142e346e8", func := "loop.example/g00966/laws.FnExactTouchesOf", spec := "fnExactTouchesOf", unfollowed := true, recurses := true, loops := true, apart := false, narrowed := true }
def FnExactTouchesOfUptoSaid : Prop := fnExactTouchesOfUptoRow.holds Tryz.pinned (OpenSpec.upto fnExactTouchesOfSpec)

end Rows
end Go.Proofs.YtfecdgjnncpcjaaGreat
