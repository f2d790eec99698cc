/- Contracts of keepIn and l13Keep; KeepOf of the program and of the reference. -/
import Derived.Test.YtfecdgjnncpcjaaD3
set_option linter.unusedSimpArgs false
set_option linter.unusedVariables false
namespace Go.Proofs.Ytfecdgjnncpcjaa
open Go.ChangeShapes Go.WideShapes Go.ChangeAt Go.RowKit
/-- What is kept behind the places of a list. -/
def kp (k : Cd) (s : Nat) (l : List Nat) : Nat := l.foldl (fun s a => if opN k a = 7 then andNot s (2 ^ argN k a) else s) s
theorem kp_append (k : Cd) (s : Nat) (l m : List Nat) : kp k s (l ++ m) = kp k (kp k s l) m := by simp [kp]
theorem kp_snoc (k : Cd) (s : Nat) (l : List Nat) (a : Nat) : kp k s (l ++ [a]) = if opN k a = 7 then andNot (kp k s l) (2 ^ argN k a) else kp k s l := by simp [kp]
theorem kp_le (k : Cd) (l : List Nat) : ∀ s, kp k s l ≤ s := by
  induction l with
  | nil => intro s; exact Nat.le_refl _
  | cons a r ih =>
    intro s
    have e : kp k s (a :: r) = kp k (if opN k a = 7 then andNot s (2 ^ argN k a) else s) r := rfl
    rw [e]
    refine Nat.le_trans (ih _) ?_
    split
    · exact andNot_le _ _
    · exact Nat.le_refl _
/-- The live places of the procedures of a list. -/
noncomputable def placesL (k : Cd) (ps : List Nat) : List Nat := ps.flatMap fun p => listN k.ins.length (LiveP k p)
theorem placesL_snoc (k : Cd) (ps : List Nat) (p : Nat) : placesL k (ps ++ [p]) = placesL k ps ++ listN k.ins.length (LiveP k p) := by simp [placesL]
/-- What KeepOf answers. -/
noncomputable def keepN (k : Cd) (p : Nat) : Nat := kp k 63 (placesL k (listN k.procs.length (FromP k p)))
theorem keepN_lt (k : Cd) (p : Nat) : keepN k p < 64 := by have := kp_le k (placesL k (listN k.procs.length (FromP k p))) 63; unfold keepN; omega

theorem listN_step {P : Nat → Prop} {n : Nat} (h : P n) : listN (n + 1) P = listN n P ++ [n] := by rw [listN_succ, if_pos h]
theorem listN_skip {P : Nat → Prop} {n : Nat} (h : ¬ P n) : listN (n + 1) P = listN n P := by rw [listN_succ, if_neg h]
theorem without_nat {s x : Nat} (hs : s < 64) (hx : x < 6) : withoutV (s : Int) ((2 ^ x : Nat) : Int) = ((andNot s (2 ^ x) : Nat) : Int) := by
  have h2 : 2 ^ x < 64 := (Nat.pow_lt_pow_right (by omega) hx : 2 ^ x < 2 ^ 6)
  simp only [withoutV, isSetB_of_nat hs, isSetB_of_nat h2, Bool.and_self, if_true, Int.toNat_natCast]

end Go.Proofs.Ytfecdgjnncpcjaa
