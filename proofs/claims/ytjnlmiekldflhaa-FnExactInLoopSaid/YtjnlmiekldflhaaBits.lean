/- Bits of whole numbers from 0 on: what Go's operators on int64 give, said of natural numbers. No program is named. -/
import Derived.Laws.BitsAllLaws
import Derived.Laws.BitsLemmas
import Derived.WalkKit
set_option linter.unusedSimpArgs false
set_option linter.unusedVariables false
namespace Go.Proofs.Ytjnlmiekldflhaa
open Go.RowKit

theorem ofInt_i64 (a : Nat) (ha : a < 9223372036854775808) : (BitVec.ofInt 64 (a : Int)).toNat = a := by
  rw [BitVec.ofInt_natCast, BitVec.toNat_ofNat]; exact Nat.mod_eq_of_lt (by omega)
theorem i64_and_nat (a b : Nat) (ha : a < 9223372036854775808) (hb : b < 9223372036854775808) : bits .and .i64 (a : Int) (b : Int) = ((a &&& b : Nat) : Int) := by
  have hx : a &&& b < 2 ^ 63 := Nat.and_lt_two_pow _ (by omega)
  show IntKind.i64.wrap ((BitVec.ofInt 64 (a : Int) &&& BitVec.ofInt 64 (b : Int)).toNat : Int) = _
  rw [BitVec.toNat_and, ofInt_i64 a ha, ofInt_i64 b hb, IntKind.wrap_i64]
  omega
theorem i64_or_nat (a b : Nat) (ha : a < 9223372036854775808) (hb : b < 9223372036854775808) : bits .or .i64 (a : Int) (b : Int) = ((a ||| b : Nat) : Int) := by
  have hx : a ||| b < 2 ^ 63 := Nat.or_lt_two_pow (by omega) (by omega)
  show IntKind.i64.wrap ((BitVec.ofInt 64 (a : Int) ||| BitVec.ofInt 64 (b : Int)).toNat : Int) = _
  rw [BitVec.toNat_or, ofInt_i64 a ha, ofInt_i64 b hb, IntKind.wrap_i64]
  omega

/-- What is in a and not in b. -/
def andNot (a b : Nat) : Nat := a &&& (9223372036854775807 - b)
theorem testBit_andNot (a b i : Nat) (ha : a < 9223372036854775808) (hb : b < 9223372036854775808) : (andNot a b).testBit i = (a.testBit i && !b.testBit i) := by
  unfold andNot
  rw [Nat.testBit_and]
  have h : 9223372036854775807 - b = 2 ^ 63 - (b + 1) := by omega
  rw [h, Nat.testBit_two_pow_sub_succ (by omega)]
  by_cases hi : i < 63
  · simp [hi]
  · have : a.testBit i = false := Nat.testBit_lt_two_pow (Nat.lt_of_lt_of_le ha (by
      show 2 ^ 63 ≤ 2 ^ i
      exact Nat.pow_le_pow_right (by omega) (by omega)))
    simp [this]
theorem andNot_le (a b : Nat) : andNot a b ≤ a := Nat.and_le_left
theorem i64_andNot_nat (a b : Nat) (ha : a < 9223372036854775808) (hb : b < 9223372036854775808) : bits .andNot .i64 (a : Int) (b : Int) = ((andNot a b : Nat) : Int) := by
  have hle := andNot_le a b
  have e : (BitVec.ofInt 64 (a : Int) &&& ~~~ BitVec.ofInt 64 (b : Int)).toNat = andNot a b := by
    rw [BitVec.toNat_and, BitVec.toNat_not, ofInt_i64 a ha, ofInt_i64 b hb]
    apply Nat.eq_of_testBit_eq
    intro i
    rw [testBit_andNot a b i ha hb, Nat.testBit_and]
    have h : 2 ^ 64 - 1 - b = 2 ^ 64 - (b + 1) := by omega
    rw [h, Nat.testBit_two_pow_sub_succ (by omega)]
    by_cases hi : i < 64
    · simp [hi]
    · have : a.testBit i = false := Nat.testBit_lt_two_pow (Nat.lt_of_lt_of_le ha (by
        show 2 ^ 63 ≤ 2 ^ i
        exact Nat.pow_le_pow_right (by omega) (by omega)))
      simp [this]
  show IntKind.i64.wrap ((BitVec.ofInt 64 (a : Int) &&& ~~~ BitVec.ofInt 64 (b : Int)).toNat : Int) = _
  rw [e, IntKind.wrap_i64]
  omega

/-- The number is in 0 .. 63. -/
def isSetB (a : Int) : Bool := decide (0 ≤ a) && decide (a ≤ 63)
theorem isSetB_nat {a : Int} (h : isSetB a = true) : ∃ n : Nat, a = n ∧ n < 64 := by
  simp only [isSetB, Bool.and_eq_true, decide_eq_true_eq] at h
  exact ⟨a.toNat, by omega, by omega⟩
theorem isSetB_of_nat {n : Nat} (h : n < 64) : isSetB (n : Int) = true := by simp [isSetB]; omega

/-- set >> i & 1 == 1. -/
theorem shr_bit (s i : Nat) (hs : s < 9223372036854775808) : (bits .and .i64 ((s : Int) / 2 ^ i) 1 == 1) = s.testBit i := by
  have h : ((s : Int) / 2 ^ i) = ((s / 2 ^ i : Nat) : Int) := by simp
  have hd : s / 2 ^ i ≤ s := Nat.div_le_self _ _
  rw [h, show (1 : Int) = ((1 : Nat) : Int) from rfl, i64_and_nat _ _ (by omega) (by omega), Nat.testBit_eq_decide_div_mod_eq, Nat.and_one_is_mod]
  rcases Nat.mod_two_eq_zero_or_one (s / 2 ^ i) with h2 | h2 <;> rw [h2] <;> rfl
/-- 1 << i. -/
theorem shl_one (i : Nat) (hi : i < 62) : wrap64 ((2 : Int) ^ i) = ((2 ^ i : Nat) : Int) := by
  have h1 : 2 ^ i < 2 ^ 62 := Nat.pow_lt_pow_right (by omega) hi
  have h2 : ((2 : Int) ^ i) = ((2 ^ i : Nat) : Int) := by simp
  rw [h2]
  generalize 2 ^ i = m at h1
  exact IntWalk.wrap64_in _ ⟨by omega, by omega⟩

/-- set & (1 << i) != 0. -/
theorem and_bit (s i : Nat) : (s &&& 2 ^ i != 0) = s.testBit i := by
  cases h : s.testBit i
  · have : s &&& 2 ^ i = 0 := by
      apply Nat.eq_of_testBit_eq
      intro j
      rw [Nat.testBit_and, Nat.testBit_two_pow]
      by_cases hj : i = j
      · subst hj; simp [h]
      · simp [hj]
    simp [this]
  · rw [bne_iff_ne]
    intro h0
    have := congrArg (fun n => n.testBit i) h0
    simp [Nat.testBit_and, h] at this

theorem within_eq (a b : Nat) (ha : a < 9223372036854775808) (hb : b < 9223372036854775808) : (andNot a b == 0) = (a &&& b == a) := by
  rw [Bool.eq_iff_iff, beq_iff_eq, beq_iff_eq]
  constructor
  · intro h
    apply Nat.eq_of_testBit_eq
    intro i
    have := congrArg (fun n => n.testBit i) h
    simp only [testBit_andNot a b i ha hb, Nat.zero_testBit] at this
    rw [Nat.testBit_and]
    cases h1 : a.testBit i <;> cases h2 : b.testBit i <;> simp_all
  · intro h
    apply Nat.eq_of_testBit_eq
    intro i
    have := congrArg (fun n => n.testBit i) h
    simp only [Nat.testBit_and] at this
    rw [testBit_andNot a b i ha hb]
    cases h1 : a.testBit i <;> cases h2 : b.testBit i <;> simp_all
theorem without_eq (a b : Nat) (ha : a < 64) (hb : b < 64) : andNot a b = a &&& (63 - b) := by
  apply Nat.eq_of_testBit_eq
  intro i
  rw [testBit_andNot a b i (by omega) (by omega), Nat.testBit_and]
  have h : 63 - b = 2 ^ 6 - (b + 1) := by omega
  rw [h, Nat.testBit_two_pow_sub_succ (by omega)]
  by_cases hi : i < 6
  · simp [hi]
  · have : a.testBit i = false := Nat.testBit_lt_two_pow (Nat.lt_of_lt_of_le ha (by
      show 2 ^ 6 ≤ 2 ^ i
      exact Nat.pow_le_pow_right (by omega) (by omega)))
    simp [this]
theorem ret_bool {a b : Bool} (h : a = b) : Ending.returned (.bool a) = .returned (.bool b) := by rw [h]
theorem ret_int {a b : Int} (h : a = b) : Ending.returned (.int .i64 a) = .returned (.int .i64 b) := by rw [h]
theorem two_pow_cast (i : Nat) : ((2 : Int) ^ i) = ((2 ^ i : Nat) : Int) := by simp
theorem two_pow_lt (i : Nat) (hi : i < 62) : 2 ^ i < 9223372036854775808 :=
  Nat.lt_trans (Nat.pow_lt_pow_right (by omega) hi) (by omega)
/-- set & (1 << i) != 0, as the walk spells it. -/
theorem and_bit64 (s i : Nat) (hs : s < 9223372036854775808) (hi : i < 62) : (bits .and .i64 (s : Int) ((2 : Int) ^ i) != 0) = s.testBit i := by
  rw [two_pow_cast, i64_and_nat _ _ hs (two_pow_lt i hi), ← and_bit s i, bne, bne]
  congr 1
  rw [Bool.eq_iff_iff, beq_iff_eq, beq_iff_eq]
  omega
theorem or_bit64 (s i : Nat) (hs : s < 9223372036854775808) (hi : i < 62) : bits .or .i64 (s : Int) ((2 : Int) ^ i) = ((s ||| 2 ^ i : Nat) : Int) := by
  rw [two_pow_cast, i64_or_nat _ _ hs (two_pow_lt i hi)]
theorem andNot_bit64 (s i : Nat) (hs : s < 9223372036854775808) (hi : i < 62) : bits .andNot .i64 (s : Int) ((2 : Int) ^ i) = ((andNot s (2 ^ i) : Nat) : Int) := by
  rw [two_pow_cast, i64_andNot_nat _ _ hs (two_pow_lt i hi)]
theorem cast_beq (a b : Nat) : (((a : Int)) == (b : Int)) = (a == b) := by
  rw [Bool.eq_iff_iff, beq_iff_eq, beq_iff_eq]; omega
theorem cast_beq_zero (a : Nat) : (((a : Int)) == 0) = (a == 0) := by
  rw [Bool.eq_iff_iff, beq_iff_eq, beq_iff_eq]; omega
end Go.Proofs.Ytjnlmiekldflhaa
