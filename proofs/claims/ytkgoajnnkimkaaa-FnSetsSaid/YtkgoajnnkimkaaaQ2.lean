/- Regions that draw their order: one step after another by hand. -/
import Derived.Test.YtkgoajnnkimkaaaA2
import Derived.Carry
import Derived.ChangeSame
import Derived.ChangeSlices
import Derived.Deep.LoopGhost
import Derived.Deep.RegionHeld3
import Derived.Deep.Strs
import Derived.Laws.Rows
import Derived.Laws.StructEq
import Derived.Lib.SmallJoins
import Derived.WalkLawsBesides
import Derived.WalkSpells
set_option linter.unusedSimpArgs false
set_option linter.unusedVariables false
set_option maxRecDepth 100000
set_option maxHeartbeats 16000000
namespace Go.Proofs.Ytkgoajnnkimkaaa
open Go.ChangeShapes Go.WideShapes Go.ChangeAt Go.RowKit
section
variable {P : Program} {ops : Array Oper} {Q : Exit → Act → World → Prop} {md : Region.Mode} {S S' : World → Prop} {l : List Oper} {i : Nat} {o : Oper} {v : Value} {fuel : Nat} {listed : Array Bool} {a : Act} {w : World}
theorem hand_run (hi : l[i]? = some o) (hs : Region.noSelect l.toArray = true) (hf : Region.free md l.toArray listed i = true) (hr : (Region.ready md l.toArray listed).contains i = true)
  (hQ : ∀ c a w,Q (.panic c) (a.put o.dst v) w → Q (.panic c) a w) (hw : Region.wanted o (yielded l.toArray a.tmps) = true) (hv : ∀ w,S w → (execOp a.eval o).run P w = .ok (.value v) w) (hS : S w)
  (h : wpAnyH P md l.toArray Q S fuel (listed.setIfInBounds i true) (a.put o.dst v) w) : wpAnyH P md l.toArray Q S (fuel + 1) listed a w :=
 wpAnyH_take (by simpa using hi) hs hf hr hQ (Or.inl ⟨hw,hv⟩) hS h
theorem hand_skip (hi : l[i]? = some o) (hs : Region.noSelect l.toArray = true) (hf : Region.free md l.toArray listed i = true) (hr : (Region.ready md l.toArray listed).contains i = true)
  (hQ : ∀ c a w,Q (.panic c) (a.put o.dst undef) w → Q (.panic c) a w) (hw : Region.wanted o (yielded l.toArray a.tmps) = false) (hS : S w)
  (h : wpAnyH P md l.toArray Q S fuel (listed.setIfInBounds i true) (a.put o.dst undef) w) : wpAnyH P md l.toArray Q S (fuel + 1) listed a w :=
 wpAnyH_take (by simpa using hi) hs hf hr hQ (Or.inr ⟨hw,rfl⟩) hS h
theorem hand_one (hi : l[i]? = some o) (hr : Region.ready md l.toArray listed = [i])
  (h : ∀ K' : Act → World → Prop,Shut (∀ a w,S w → (S w → wpAnyH P md l.toArray Q S fuel (listed.setIfInBounds i true) a w) → K' a w) → if Region.wanted o (yielded l.toArray a.tmps) = true then Oper.wp P o a w K' Q else K' (a.put o.dst undef) w) : wpAnyH P md l.toArray Q S (fuel + 1) listed a w :=
 wpAnyH_ready hr (by simp) (AllReadyH.cons (by simpa using hi) h AllReadyH.nil)
theorem hs_ (i : Nat) {a' : Act} (h : wpAnyH P md l.toArray Q S fuel (listed.setIfInBounds i true) a' w) (hi : l[i]? = some o := by exact rfl) (hs : Region.noSelect l.toArray = true := by kernel_rfl) (hf : Region.free md l.toArray listed i = true := by kernel_rfl) (hr : (Region.ready md l.toArray listed).contains i = true := by kernel_rfl)
  (hQ : ∀ c a w,Q (.panic c) (a.put o.dst undef) w → Q (.panic c) a w:=by exact fun _ _ _ h=>h) (hw : Region.wanted o (yielded l.toArray a.tmps) = false:=by rfl) (hS : S w:=by assumption)
  (ha : a.put o.dst undef = a':=by ((try simp only [Act.put,List.setIfInBounds_toArray,List.set_cons_zero,List.set_cons_succ]) <;> exact rfl)) : wpAnyH P md l.toArray Q S (fuel + 1) listed a w :=
 hand_skip hi hs hf hr hQ hw hS (ha ▸ h)
theorem hr_ (i : Nat) {a' : Act} (v : Value) (hv : ∀ w, S w → (execOp a.eval o).run P w = .ok (.value v) w) (h : wpAnyH P md l.toArray Q S fuel (listed.setIfInBounds i true) a' w) (hi : l[i]? = some o := by exact rfl) (hs : Region.noSelect l.toArray = true := by kernel_rfl) (hf : Region.free md l.toArray listed i = true := by kernel_rfl) (hr : (Region.ready md l.toArray listed).contains i = true := by kernel_rfl)
  (hQ : ∀ c a w,Q (.panic c) (a.put o.dst v) w → Q (.panic c) a w:=by exact fun _ _ _ h=>h) (hw : Region.wanted o (yielded l.toArray a.tmps) = true:=by rfl) (hS : S w:=by assumption)
  (ha : a.put o.dst v = a':=by ((try simp only [Act.put,List.setIfInBounds_toArray,List.set_cons_zero,List.set_cons_succ]) <;> exact rfl)) : wpAnyH P md l.toArray Q S (fuel + 1) listed a w :=
 hand_run hi hs hf hr hQ hw hv hS (ha ▸ h)
theorem ho_ (i : Nat) (h : ∀ K' : Act → World → Prop, Shut (∀ a w, S w → (S w → wpAnyH P md l.toArray Q S fuel (listed.setIfInBounds i true) a w) → K' a w) → Oper.wp P o a w K' Q) (hi : l[i]? = some o := by exact rfl)
  (hr : Region.ready md l.toArray listed = [i]:=by kernel_rfl) (hw : Region.wanted o (yielded l.toArray a.tmps) = true:=by first | rfl | kernel_rfl) : wpAnyH P md l.toArray Q S (fuel + 1) listed a w :=
 hand_one hi hr fun K hK=>by rw [if_pos hw];exact h K hK
theorem hk_ {ops : Array Oper} {K : Act → World → Prop} {a' : Act} (hK : Shut (∀ a w, S w → (S w → wpAnyH P md ops Q S fuel listed a w) → K a w)) (hS : S w) (h : S w → wpAnyH P md ops Q S fuel listed a' w)
  (ha : a = a':=by ((try simp only [Act.put,List.setIfInBounds_toArray,List.set_cons_zero,List.set_cons_succ]) <;> exact rfl)) : K a w:=by subst ha;exact hK.out _ _ hS h
end
end Go.Proofs.Ytkgoajnnkimkaaa
