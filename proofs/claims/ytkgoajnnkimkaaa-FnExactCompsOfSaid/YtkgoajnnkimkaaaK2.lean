/- Rows of unsigned numbers as sets of small numbers: what Go's operators on uint64 give; rows of rows of ints. -/
import Derived.Test.YtkgoajnnkimkaaaK1
import Derived.Test.YtkgoajnnkimkaaaA1
set_option linter.unusedSimpArgs false
set_option linter.unusedVariables false
namespace Go.Proofs.Ytkgoajnnkimkaaa
open Go.ChangeShapes Go.WideShapes Go.ChangeAt Go.RowKit

/-- The cell of a uint64. -/
def uv (n : Nat) : Value := .int .u64 (n : Int)
theorem info_u64 : (Try.prog.info? 69).map (fun i => (i.zero, i.size, i.bytes)) = some (some (.int .u64 0), 1, 8) := by kernel_rfl
theorem Rd.u64 {w : World} {B : Nat} {A : Option Addr} {zs : List Nat} (h : Rd w B A (zs.map uv)) {k : Nat} (hk : k < zs.length) : ∃ ad, A = some ad ∧ ad.block < B ∧ w.cell? (ad.add k) = some (.int .u64 ((zs[k] : Nat) : Int)) :=
  h k _ (by simp [hk, uv])
section
variable (w : World) {ops : Array Oper} {rest : List Oper} {o : Oper} {a : Act} {Q : Exit → Act → World → Prop}
theorem replicate_uv (n : Nat) : (madeCells (Value.int .u64 0).cells (n * 1)).toList = (List.replicate n (0 : Nat)).map uv := by
  show (madeCells #[Value.int .u64 0] (n * 1)).toList = _
  rw [toList_madeCells_one, Nat.mul_one, List.map_replicate]; rfl
/-- make([]uint64, n). -/
theorem make_u64 (hg : o.guard = none) (l c : Operand) (hop : o.op = Op.makeSlice 67 l c) (n : Nat) (hl : a.eval l = .int .i64 (n : Int)) (hc : a.eval c = .int .i64 (n : Int)) (hn : n ≤ 1099511627776)
    (hK : ∀ w', w'.ownsRow w.heap.size 69 1 (.slice (some ⟨w.heap.size, 0, none⟩) n n) n ((List.replicate n (0 : Nat)).map uv) → Below w.heap.size w w' →
      wpList Try.prog ops Q rest (a.put o.dst (.slice (some ⟨w.heap.size, 0, none⟩) n n)) w') : wpList Try.prog ops Q (o :: rest) a w := by
  obtain ⟨i0, hi, hz0, hz1, hz2⟩ := info_parts info_u64
  refine wpList_make_full w hg l c _ hop w.heap.size _ i0 _ 1 Try.underlying67 hi hz0 hz1 _ _ _ _ n hl hc rfl rfl (by rw [hz2]; omega) (by unfold maxLen; omega) (Nat.le_refl _) ?_
  intro w' h1 h2
  rw [replicate_uv] at h1
  exact hK w' h1 ((Below.refl _ _).grown h2 (Nat.le_refl _) (by simp))
theorem replicate_bv (n : Nat) : (madeCells (Value.bool false).cells (n * 1)).toList = (List.replicate n false).map bv := by
  show (madeCells #[Value.bool false] (n * 1)).toList = _
  rw [toList_madeCells_one, Nat.mul_one, List.map_replicate]; rfl
/-- make([]bool, n). -/
theorem make_bools (hg : o.guard = none) (l c : Operand) (hop : o.op = Op.makeSlice 50 l c) (n : Nat) (hl : a.eval l = .int .i64 (n : Int)) (hc : a.eval c = .int .i64 (n : Int)) (hn : n ≤ 1099511627776)
    (hK : ∀ w', w'.ownsRow w.heap.size 4 1 (.slice (some ⟨w.heap.size, 0, none⟩) n n) n ((List.replicate n false).map bv) → Below w.heap.size w w' →
      wpList Try.prog ops Q rest (a.put o.dst (.slice (some ⟨w.heap.size, 0, none⟩) n n)) w') : wpList Try.prog ops Q (o :: rest) a w := by
  obtain ⟨i0, hi, hz0, hz1, hz2⟩ := info_parts info_bool
  refine wpList_make_full w hg l c _ hop w.heap.size _ i0 _ 1 Try.underlying50 hi hz0 hz1 _ _ _ _ n hl hc rfl rfl (by rw [hz2]; omega) (by unfold maxLen; omega) (Nat.le_refl _) ?_
  intro w' h1 h2
  rw [replicate_bv] at h1
  exact hK w' h1 ((Below.refl _ _).grown h2 (Nat.le_refl _) (by simp))
end
theorem shr_bit_u (s i : Nat) (hs : s < 18446744073709551616) : (bits .and .u64 ((s : Int) / 2 ^ i) 1 == 1) = s.testBit i := by
  have h : ((s : Int) / 2 ^ i) = ((s / 2 ^ i : Nat) : Int) := by simp
  have hd : s / 2 ^ i ≤ s := Nat.div_le_self _ _
  rw [h, show (1 : Int) = ((1 : Nat) : Int) from rfl, u64_and_nat _ _ (by omega) (by omega), Nat.testBit_eq_decide_div_mod_eq, Nat.and_one_is_mod]
  rcases Nat.mod_two_eq_zero_or_one (s / 2 ^ i) with h2 | h2 <;> rw [h2] <;> rfl
theorem shl_u (i : Nat) (hi : i < 64) : IntKind.u64.wrap ((2 : Int) ^ i) = ((2 ^ i : Nat) : Int) := by
  have h1 : 2 ^ i < 2 ^ 64 := Nat.pow_lt_pow_right (by omega) hi
  have h2 : ((2 : Int) ^ i) = ((2 ^ i : Nat) : Int) := by simp
  rw [h2, IntKind.wrap_u64]
  generalize 2 ^ i = m at h1
  omega
theorem or_pow_u (a i : Nat) (ha : a < 18446744073709551616) (hi : i < 64) : bits .or .u64 (a : Int) (IntKind.u64.wrap ((2 : Int) ^ i)) = ((a ||| 2 ^ i : Nat) : Int) := by
  have h1 : 2 ^ i < 2 ^ 64 := Nat.pow_lt_pow_right (by omega) hi
  rw [shl_u i hi, u64_or_nat a _ ha (by omega)]
/-- What is in a, and in neither b nor c, is nothing. -/
theorem andNot_u (a b : Nat) (ha : a < 18446744073709551616) (hb : b < 18446744073709551616) : bits .andNot .u64 (a : Int) (b : Int) = ((a &&& (18446744073709551615 - b) : Nat) : Int) := u64_andNot_nat a b ha hb
theorem testBit_not_u (a b i : Nat) (ha : a < 18446744073709551616) (hb : b < 18446744073709551616) : (a &&& (18446744073709551615 - b)).testBit i = (a.testBit i && !b.testBit i) := by
  rw [Nat.testBit_and]
  have h : 18446744073709551615 - b = 2 ^ 64 - (b + 1) := by omega
  rw [h, Nat.testBit_two_pow_sub_succ (by omega)]
  by_cases hi : i < 64
  · simp [hi]
  · have : a.testBit i = false := Nat.testBit_lt_two_pow (Nat.lt_of_lt_of_le ha (by
      show 2 ^ 64 ≤ 2 ^ i
      exact Nat.pow_le_pow_right (by omega) (by omega)))
    simp [this]
end Go.Proofs.Ytkgoajnnkimkaaa
