/- Contracts of NextOf, ReachIn, LiveIn, of the program and of the reference. -/
import Derived.Test.YtfecdgjnncpcjaaGreatC4
set_option linter.unusedSimpArgs false
set_option linter.unusedVariables false
namespace Go.Proofs.YtfecdgjnncpcjaaGreat
open Go.ChangeShapes Go.WideShapes Go.ChangeAt Go.RowKit
theorem listN_markL {n : Nat} {P : Nat → Prop} : (listN (markL n P).length fun i => mkd (markL n P) i = true) = listN n P := by
  rw [markL_len]
  exact listN_congr fun i hi => by rw [mkd_markL_true]; exact ⟨fun h => h.2, fun h => ⟨hi, h⟩⟩
theorem atL_len {k : Cd} {at_ : Int} {F : Nat → List Nat} {n : Nat} (h : ∀ a, (F a).length ≤ n) : (atL k at_ F).length ≤ n := by
  unfold atL
  split
  · exact h _
  · simp
theorem procL_len {k : Cd} {at_ : Int} {F : Nat → List Nat} {n : Nat} (h : ∀ a, (F a).length ≤ n) : (procL k at_ F).length ≤ n := by
  unfold procL
  split
  · exact h _
  · simp

end Go.Proofs.YtfecdgjnncpcjaaGreat
