/- What a law is handed, read as lists: from the row's reading of an argument to the cells that the walk wants. -/
import Derived.Test.YtjnlmiekldflhaaMem
import Derived.Test.YtjnlmiekldflhaaLift
import Derived.Test.YtjnlmiekldflhaaData
import Derived.ChangeSlices
import Derived.Lib.SmallJoins
set_option linter.unusedSimpArgs false
set_option linter.unusedVariables false
namespace Go.Proofs.Ytjnlmiekldflhaa
open Go.ChangeShapes Go.WideShapes Go.ChangeAt Go.RowKit

theorem fits_of_wf {n : Int} (h : (Lit.int .i64 n).wf = true) : Fits n := by
  simp [Lit.wf, IntKind.min, IntKind.max, IntKind.bits, IntKind.signed] at h
  unfold Fits
  omega

theorem cells_int : Try.prog.cellsOf 3 = 1 := by kernel_rfl

section
variable {H : Type} {enc : TypeId × Value → H} {W : World} {sp : Nat → Bool} {held : Bool}
theorem rd_ints {fuel : Nat} {cs : List Value} {x : DataW H × List MemPlace} (h : DataW.trod enc Try.prog W 0 sp held fuel 23 cs = some x) :
    ∃ (A : Option Addr) (c : Nat) (zs : List Int), cs = [.slice A zs.length c] ∧ Rd W W.heap.size A (zs.map iv) ∧ zs.length ≤ 9223372036854775807 ∧ ∀ n ∈ zs, Fits n := by
  rcases open_ints Try.underlying23 Try.underlying3 cells_int h with ⟨rfl, rfl⟩ | ⟨a, len, cap, zs, rfl, _, hlc, hcm, hzl, rfl, hcell, hwf⟩
  · exact ⟨none, 0, [], rfl, Rd.nil, by simp, by simp⟩
  · have hle : len ≤ zs.length := by rw [hzl]; split <;> omega
    unfold maxLen at hcm
    refine ⟨some a, cap, zs.take len, by simp [Nat.min_eq_left hle], ?_, by simp; omega, fun n hn => fits_of_wf (hwf n (List.mem_of_mem_take hn))⟩
    intro j u hu
    simp only [List.getElem?_map, List.getElem?_take] at hu
    by_cases hj : j < len
    · rw [if_pos hj, List.getElem?_eq_getElem (by omega)] at hu
      simp at hu
      subst hu
      have hc := hcell j (by omega)
      rw [List.getD_eq_getElem?_getD, List.getElem?_eq_getElem (by omega)] at hc
      have hb := World.block_lt_of_cell? W _ hc
      rw [block_of_add] at hb
      exact ⟨a, rfl, hb, hc⟩
    · rw [if_neg hj] at hu
      simp at hu
set_option maxRecDepth 100000 in
theorem slice_cells {t e : TypeId} {v : Value} {r : Reach} {b : Nat} (ht : Try.prog.underlying t = some (.slice e)) (hv : Value.okWide Try.prog W r b t v) : v.cells.toList = [v] := by
  obtain ⟨a, l, c, rfl⟩ := okWide_slice ht hv
  rfl
end
end Go.Proofs.Ytjnlmiekldflhaa
