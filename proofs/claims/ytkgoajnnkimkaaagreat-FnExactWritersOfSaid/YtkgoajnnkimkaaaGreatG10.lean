/- Law helpers over lists of touches. -/
import Derived.Test.YtkgoajnnkimkaaaGreatG9
import Derived.Test.YtkgoajnnkimkaaaGreatB3
set_option linter.unusedSimpArgs false
set_option linter.unusedVariables false
namespace Go.Proofs.YtkgoajnnkimkaaaGreat
open Go.ChangeShapes Go.WideShapes Go.ChangeAt Go.RowKit
theorem atT_len12 (k : Cd) (x : Int) : (atT k x).length ≤ 12 := by
  cases h : (codeOkI k && (decide (0 ≤ x) && decide (x < k.ins.length)))
  · rw [atT_no h]; simp
  · have h1 := atT_len k x
    have h2 := (right_of (Bool.and_eq_true_iff.1 h).1).globals
    omega
theorem tCells_get : ∀ (ts : List Tt) (i : Nat) (h : i < ts.length), (tCells ts)[i * 4]? = some (.int .i64 (ts[i].a : Int)) ∧ (tCells ts)[i * 4 + 1]? = some (.int .i64 (ts[i].g : Int)) ∧ (tCells ts)[i * 4 + 2]? = some (.bool ts[i].w) ∧ (tCells ts)[i * 4 + 3]? = some (.int .i64 (ts[i].h : Int))
  | t :: r, 0, _ => ⟨rfl, rfl, rfl, rfl⟩
  | t :: r, i + 1, h => by
    obtain ⟨h0, h1, h2, h3⟩ := tCells_get r i (by simpa using h)
    rw [show (i + 1) * 4 = i * 4 + 1 + 1 + 1 + 1 from by omega]
    refine ⟨by simpa [tCells] using h0, ?_, ?_, ?_⟩
    · rw [show i * 4 + 1 + 1 + 1 + 1 + 1 = (i * 4 + 1) + 1 + 1 + 1 + 1 from by omega]; simpa [tCells] using h1
    · rw [show i * 4 + 1 + 1 + 1 + 1 + 2 = (i * 4 + 2) + 1 + 1 + 1 + 1 from by omega]; simpa [tCells] using h2
    · rw [show i * 4 + 1 + 1 + 1 + 1 + 3 = (i * 4 + 3) + 1 + 1 + 1 + 1 from by omega]; simpa [tCells] using h3
theorem Rd.touch {w : World} {B : Nat} {A : Option Addr} {ts : List Tt} (h : Rd w B A (tCells ts)) {i : Nat} (hi : i < ts.length) : ∃ ad, A = some ad ∧ (ad.add (i * 4)).block < B ∧
    w.cell? (ad.add (i * 4)) = some (.int .i64 (ts[i].a : Int)) ∧ w.cell? ⟨(ad.add (i * 4)).block, (ad.add (i * 4)).off + 1, none⟩ = some (.int .i64 (ts[i].g : Int)) ∧
    w.cell? ⟨(ad.add (i * 4)).block, (ad.add (i * 4)).off + 2, none⟩ = some (.bool ts[i].w) ∧ w.cell? ⟨(ad.add (i * 4)).block, (ad.add (i * 4)).off + 3, none⟩ = some (.int .i64 (ts[i].h : Int)) := by
  obtain ⟨h0, h1, h2, h3⟩ := tCells_get ts i hi
  obtain ⟨ad, rfl, hb, c0⟩ := h _ _ h0
  obtain ⟨ad', e', _, c1⟩ := h _ _ h1
  cases e'
  obtain ⟨ad', e', _, c2⟩ := h _ _ h2
  cases e'
  obtain ⟨ad', e', _, c3⟩ := h _ _ h3
  cases e'
  rw [add_pos_eq _ _ 1 (by omega)] at c1
  rw [add_pos_eq _ _ 2 (by omega)] at c2
  rw [add_pos_eq _ _ 3 (by omega)] at c3
  exact ⟨ad, rfl, by rw [block_of_add]; exact hb, c0, c1, c2, c3⟩
/-- The touches that are laid as marks. -/
def tk (k j : Nat) : Tt := ⟨k + j * 4, k + (j * 4 + 1), decide ((k + (j * 4 + 2)) % 3 = 0), k + (j * 4 + 3)⟩
def upT (k n : Nat) : List Value := tCells ((List.range n).map (tk k))
theorem upT_len (k n : Nat) : (upT k n).length = n * 4 := by simp [upT, tCells_len]
theorem upT_get (k n j : Nat) (hj : j < n) : (upT k n)[j * 4]? = some (.int .i64 ((k + j * 4 : Nat) : Int)) ∧ (upT k n)[j * 4 + 1]? = some (.int .i64 ((k + (j * 4 + 1) : Nat) : Int)) ∧ (upT k n)[j * 4 + 2]? = some (.bool (decide ((k + (j * 4 + 2)) % 3 = 0))) ∧ (upT k n)[j * 4 + 3]? = some (.int .i64 ((k + (j * 4 + 3) : Nat) : Int)) := by
  have h := tCells_get ((List.range n).map (tk k)) j (by simpa using hj)
  simp only [List.getElem_map, List.getElem_range] at h
  exact h
theorem mod_three2 (k j : Nat) : (((k : Int) + (j : Int) * 4 + 1 + 1) % 3 == 0) = decide ((k + (j * 4 + 2)) % 3 = 0) := by
  rw [Bool.eq_iff_iff]
  simp only [beq_iff_eq, decide_eq_true_eq]
  omega
end Go.Proofs.YtkgoajnnkimkaaaGreat
