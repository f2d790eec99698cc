/- Contract of the reference's l08Ins. -/
import Derived.Test.YtkgoajnnkimkaaaA7
set_option linter.unusedSimpArgs false
set_option linter.unusedVariables false
set_option maxRecDepth 100000
set_option maxHeartbeats 16000000
namespace Go.Proofs.Ytkgoajnnkimkaaa
open Go.ChangeShapes Go.WideShapes Go.ChangeAt Go.RowKit
def procN (k : Cd) (a : Nat) : Nat:=(procI k a).toNat
def insS (k : Cd) (a : Nat) : Bool:=insBat k a (entryAt k (procN k a)) (endP k (procN k a))
structure Head (k : Cd) : Prop where
 el : 1 ≤ k.entry.length
 nn : ∀ i,i < k.entry.length → 0 ≤ entryAt k i
 z : entryAt k 0 = 0
theorem Head.proc {k : Cd} (h : Head k) (a : Nat) : procI k a = procN k a ∧ procN k a < k.entry.length:=by
 have h1:=procTo_nonneg (k:=k) (a:=a) h.el (by rw [h.z];omega);have h2:=procTo_lt k a k.entry.length;unfold procN procI;omega
end Go.Proofs.Ytkgoajnnkimkaaa
namespace Go.Proofs.Ytkgoajnnkimkaaa
open Go.ChangeShapes Go.WideShapes Go.ChangeAt Go.RowKit
end Go.Proofs.Ytkgoajnnkimkaaa
namespace Go.Proofs.Ytkgoajnnkimkaaa
open Go.ChangeShapes Go.WideShapes Go.ChangeAt Go.RowKit
end Go.Proofs.Ytkgoajnnkimkaaa
