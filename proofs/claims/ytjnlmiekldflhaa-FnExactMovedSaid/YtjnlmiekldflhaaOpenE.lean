/- What a law is handed as a list of effects, read as data. -/
import Derived.Test.YtjnlmiekldflhaaOpenC
import Derived.Test.YtjnlmiekldflhaaEff
set_option linter.unusedSimpArgs false
set_option linter.unusedVariables false
namespace Go.Proofs.Ytjnlmiekldflhaa
open Go.ChangeShapes Go.WideShapes Go.ChangeAt Go.RowKit

theorem cells_leff : Try.prog.cellsOf 64 = 2 := by kernel_rfl
section
variable {H : Type} {enc : TypeId × Value → H} {W : World} {sp : Nat → Bool} {held : Bool}
set_option maxRecDepth 100000 in
theorem eff_open {fuel : Nat} {cs : List Value} {x : DataW H × List MemPlace} (h : DataW.trod enc Try.prog W 0 sp held fuel 64 cs = some x) :
    ∃ y : Int × Int, cs = [iv y.1, iv y.2] ∧ Fits y.1 ∧ Fits y.2 := by
  obtain ⟨xs, n, rfl, _, hcl, hxl, hf⟩ := DataW.trod_struct Try.underlying64 h
  rw [cells_leff] at hcl
  match cs, hcl with
  | [c0, c1], _ =>
    have f0 : DataW.trod enc Try.prog W 0 sp held n 3 (([c0, c1].drop 0).take (Try.prog.cellsOf 3)) = xs[0]? := hf 0 _ rfl
    have f1 : DataW.trod enc Try.prog W 0 sp held n 3 (([c0, c1].drop 1).take (Try.prog.cellsOf 3)) = xs[1]? := hf 1 _ rfl
    have hxl2 : xs.length = 2 := hxl
    rw [cells_int, List.getElem?_eq_getElem (by omega)] at f0 f1
    simp only [List.drop_zero, List.drop_succ_cons, List.take_succ_cons, List.take_zero] at f0 f1
    obtain ⟨o, e0, _, w0⟩ := DataW.trod_int Try.underlying3 f0
    obtain ⟨a, e1, _, w1⟩ := DataW.trod_int Try.underlying3 f1
    injection e0 with e0
    injection e1 with e1
    subst e0 e1
    exact ⟨(o, a), rfl, fits_of_wf w0, fits_of_wf w1⟩
theorem effs_open {fuel : Nat} {cs : List Value} {x : DataW H × List MemPlace} (h : DataW.trod enc Try.prog W 0 sp held fuel 27 cs = some x) :
    ∃ (A : Option Addr) (c : Nat) (es : List (Int × Int)), cs = [.slice A es.length c] ∧ Rd W W.heap.size A (effCells es) ∧ es.length ≤ 9223372036854775807 := by
  obtain ⟨A, c, len, rfl, hlc, hlen, hel⟩ := open_elems Try.underlying27 cells_leff h
  obtain ⟨ts, htl, hts⟩ := list_of (p := fun i (y : Int × Int) => Row W W.heap.size A (i * 2) [iv y.1, iv y.2]) (n := len) fun i hi => by
    obtain ⟨cs', f, y, hf, hr, ht⟩ := hel i hi
    obtain ⟨t, e, _⟩ := eff_open ht
    rw [e] at hr
    exact ⟨t, hr⟩
  subst htl
  refine ⟨A, c, ts, rfl, ?_, hlen⟩
  intro m u hu
  have hm : m < ts.length * 2 := by rw [← effCells_len]; exact (List.getElem?_eq_some_iff.1 hu).1
  have hi : m / 2 < ts.length := by omega
  have hr := hts _ hi
  rcases Nat.mod_two_eq_zero_or_one m with e | e
  · have em : m = m / 2 * 2 + 0 := by omega
    rw [em, Nat.add_zero, effCells_keep ts _ hi] at hu
    obtain ⟨ad, e1, e2, e3⟩ := hr 0 u hu
    exact ⟨ad, e1, e2, by rw [em]; exact e3⟩
  · have em : m = m / 2 * 2 + 1 := by omega
    rw [em, effCells_gen ts _ hi] at hu
    obtain ⟨ad, e1, e2, e3⟩ := hr 1 u hu
    exact ⟨ad, e1, e2, by rw [em]; exact e3⟩
end
end Go.Proofs.Ytjnlmiekldflhaa
