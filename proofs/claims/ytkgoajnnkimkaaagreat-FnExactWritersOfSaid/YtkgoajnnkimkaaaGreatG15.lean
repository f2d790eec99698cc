/- Contracts of WritersOf and QuietOf of the program and of the reference. -/
import Derived.Test.YtkgoajnnkimkaaaGreatG11
import Derived.Test.YtkgoajnnkimkaaaGreatG10
set_option linter.unusedSimpArgs false
set_option linter.unusedVariables false
namespace Go.Proofs.YtkgoajnnkimkaaaGreat
open Go.ChangeShapes Go.WideShapes Go.ChangeAt Go.RowKit

/-- The places that set a number. -/
def wrL (g : Int) (ts : List Tt) : List Nat := ts.filterMap fun t => if t.w = true ∧ (t.g : Int) = g then some t.a else none
theorem wrL_yes {g : Int} {t : Tt} (ts : List Tt) (h : t.w = true ∧ (t.g : Int) = g) : wrL g (ts ++ [t]) = wrL g ts ++ [t.a] := by simp [wrL, h.1, h.2]
theorem wrL_no {g : Int} {t : Tt} (ts : List Tt) (h : ¬ (t.w = true ∧ (t.g : Int) = g)) : wrL g (ts ++ [t]) = wrL g ts := by simp [wrL, h]
theorem wrL_len (g : Int) (ts : List Tt) : (wrL g ts).length ≤ ts.length := List.length_filterMap_le _ _
/-- What WritersOf answers. -/
noncomputable def writersL (k : Cd) (g : Int) : List Nat := wrL g (codeT k (touchesN k))
/-- What is set. -/
def orW (ts : List Tt) : Nat := ts.foldl (fun s t => if t.w = true then s ||| 2 ^ t.g else s) 0
theorem orW_snoc (ts : List Tt) (t : Tt) : orW (ts ++ [t]) = if t.w = true then orW ts ||| 2 ^ t.g else orW ts := by simp [orW]
theorem orW_bit (g : Nat) : ∀ (n : Nat) (ts : List Tt), ts.length ≤ n → ((orW ts).testBit g = true ↔ wrL (g : Int) ts ≠ []) := by
  intro n
  induction n with
  | zero =>
    intro ts h
    obtain rfl : ts = [] := List.eq_nil_of_length_eq_zero (by omega)
    simp [orW, wrL]
  | succ n ih =>
    intro ts h
    rcases nil_or_snoc ts with rfl | ⟨r, t, rfl⟩
    · simp [orW, wrL]
    · have ih := ih r (by simp at h; omega)
      rw [orW_snoc]
      by_cases hw : t.w = true
      · rw [if_pos hw, Nat.testBit_or, Bool.or_eq_true, ih, Nat.testBit_two_pow, decide_eq_true_iff]
        by_cases hg : t.g = g
        · rw [wrL_yes r ⟨hw, by rw [hg]⟩]
          simp [hg]
        · rw [wrL_no r (fun h => hg (by have := h.2; omega))]
          exact ⟨fun h => h.resolve_right hg, .inl⟩
      · rw [if_neg hw, wrL_no r (fun h => hw h.1)]
        exact ih
/-- What QuietOf answers in right code. -/
noncomputable def quietL (k : Cd) : List Nat := listN k.globals.length fun g => wrL (g : Int) (touchesN k) = []

end Go.Proofs.YtkgoajnnkimkaaaGreat
