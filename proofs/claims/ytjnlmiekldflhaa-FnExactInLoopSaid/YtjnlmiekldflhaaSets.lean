/- Contracts of the functions on sets of locks, of the program and of the reference, for every int. -/
import Derived.Test.YtjnlmiekldflhaaRows
import Derived.WalkKit
import Derived.ProofKit
import Derived.OpenShut
import Derived.Lib.Hide
import Derived.Test.YtjnlmiekldflhaaBits
set_option linter.unusedSimpArgs false
set_option linter.unusedVariables false
namespace Go.Proofs.Ytjnlmiekldflhaa
open Go.ChangeShapes Go.WideShapes Go.ChangeAt Go.RowKit

theorem isSet_any (a : Int) (w : World) :
    Calls Try.prog 64 #[.int .i64 a] w fun e w' => e = .returned (.bool (isSetB a)) ∧ w = w' := by
  go_enter Try.func64, Try.ntmps64
  go_wp2
  all_goals go_ret
  all_goals refine ⟨?_, rfl⟩
  all_goals simp [isSetB, *]
  omega
theorem l01In_any (x a b : Int) (w : World) :
    Calls Try.prog 88 #[.int .i64 x, .int .i64 a, .int .i64 b] w fun e w' => e = .returned (.bool (decide (a ≤ x) && decide (x ≤ b))) ∧ w = w' := by
  go_enter Try.func88, Try.ntmps88
  go_wp2
  all_goals go_ret
  all_goals refine ⟨?_, rfl⟩
  all_goals simp [*]
  omega
theorem l12Ok_any (a : Int) (w : World) :
    Calls Try.prog 57 #[.int .i64 a] w fun e w' => e = .returned (.bool (isSetB a)) ∧ w = w' := by
  go_enter Try.func57, Try.ntmps57
  go_wp2_with (go_at_call 88; refine (l01In_any _ _ _ _).mono ?_; rintro e w' ⟨rfl, rfl⟩)
  go_ret
  exact ⟨rfl, rfl⟩
theorem hasBit_any (s i : Nat) (w : World) (hs : s < 9223372036854775808) (hi : i < 64) :
    Calls Try.prog 81 #[.int .i64 s, .int .i64 i] w fun e w' => e = .returned (.bool (s.testBit i)) ∧ w = w' := by
  go_enter Try.func81, Try.ntmps81
  go_wp2
  go_ret
  exact ⟨congrArg (fun b => Ending.returned (Value.bool b)) (shr_bit s i hs), rfl⟩
theorem l12Bit_any (i : Nat) (w : World) (hi : i < 62) :
    Calls Try.prog 99 #[.int .i64 i] w fun e w' => e = .returned (.int .i64 ((2 ^ i : Nat) : Int)) ∧ w = w' := by
  go_enter Try.func99, Try.ntmps99
  go_wp2
  go_ret
  exact ⟨congrArg (fun b => Ending.returned (Value.int .i64 b)) (shl_one i hi), rfl⟩
theorem l12In_any (s i : Nat) (w : World) (hs : s < 9223372036854775808) (hi : i < 62) :
    Calls Try.prog 107 #[.int .i64 s, .int .i64 i] w fun e w' => e = .returned (.bool (s.testBit i)) ∧ w = w' := by
  go_enter Try.func107, Try.ntmps107
  go_wp2_with (go_at_call 99; refine (l12Bit_any _ _ hi).mono ?_; rintro e w' ⟨rfl, rfl⟩)
  go_ret
  exact ⟨ret_bool (and_bit64 s i hs hi), rfl⟩

/-- What InSet answers. -/
def inSetB (s i : Int) : Bool := isSetB s && decide (0 ≤ i) && decide (i < 6) && s.toNat.testBit i.toNat
/-- What Within answers. -/
def withinB (a b : Int) : Bool := isSetB a && isSetB b && (a.toNat &&& b.toNat == a.toNat)
/-- What Both answers. -/
def bothV (a b : Int) : Int := if isSetB a && isSetB b then ((a.toNat &&& b.toNat : Nat) : Int) else 0
/-- What Either answers. -/
def eitherV (a b : Int) : Int := if isSetB a && isSetB b then ((a.toNat ||| b.toNat : Nat) : Int) else 0
/-- What Without answers. -/
def withoutV (a b : Int) : Int := if isSetB a && isSetB b then ((andNot a.toNat b.toNat : Nat) : Int) else 0
theorem without_s (a b : Int) (w : World) :
    Calls Try.prog 100 #[.int .i64 a, .int .i64 b] w fun e w' => e = .returned (.int .i64 (withoutV a b)) ∧ w = w' := by
  cases ha : isSetB a <;> cases hb : isSetB b
  case true.true =>
    obtain ⟨n, rfl, hn⟩ := isSetB_nat ha
    obtain ⟨m, rfl, hm⟩ := isSetB_nat hb
    go_enter Try.func100, Try.ntmps100
    go_wp2_with (go_at_call 57; refine (l12Ok_any _ _).mono ?_; rintro e w' ⟨rfl, rfl⟩)
    go_ret
    refine ⟨?_, rfl⟩
    exact ret_int (by rw [withoutV, ha, hb, if_pos (by rfl), show (63 : Int) - (m : Int) = ((63 - m : Nat) : Int) from by omega, i64_and_nat _ _ (by omega) (by omega), Int.toNat_natCast, Int.toNat_natCast, without_eq n m hn hm])
  all_goals go_enter Try.func100, Try.ntmps100
  all_goals go_wp2_with (go_at_call 57; refine (l12Ok_any _ _).mono ?_; rintro e w' ⟨rfl, rfl⟩)
  all_goals go_ret
  all_goals refine ⟨?_, rfl⟩
  all_goals simp [withinB, bothV, eitherV, withoutV, ha, hb]
theorem inSet_i (s i : Int) (w : World) :
    Calls Try.prog 110 #[.int .i64 s, .int .i64 i] w fun e w' => e = .returned (.bool (inSetB s i)) ∧ w = w' := by
  cases hs : isSetB s
  · go_enter Try.func110, Try.ntmps110
    go_wp2_with (go_at_call 64; refine (isSet_any _ _).mono ?_; rintro e w' ⟨rfl, rfl⟩)
    go_ret
    exact ⟨by simp [inSetB, hs], rfl⟩
  · obtain ⟨n, rfl, hn⟩ := isSetB_nat hs
    by_cases h0 : 0 ≤ i
    · by_cases h6 : i < 6
      · obtain ⟨j, rfl⟩ := Int.eq_ofNat_of_zero_le h0
        have hj : j < 6 := by omega
        go_enter Try.func110, Try.ntmps110
        go_wp2_with (first | (go_at_call 64; refine (isSet_any _ _).mono ?_; rintro e w' ⟨rfl, rfl⟩) | (go_at_call 81; refine (hasBit_any _ _ _ (by omega) (by omega)).mono ?_; rintro e w' ⟨rfl, rfl⟩))
        go_ret
        exact ⟨ret_bool (by rw [inSetB, hs, decide_eq_true (by omega : (0 : Int) ≤ j), decide_eq_true (by omega : (j : Int) < 6)]; rfl), rfl⟩
      · go_enter Try.func110, Try.ntmps110
        go_wp2_with (go_at_call 64; refine (isSet_any _ _).mono ?_; rintro e w' ⟨rfl, rfl⟩)
        go_ret
        exact ⟨ret_bool (by rw [inSetB, decide_eq_false (by omega : ¬ i < 6)]; simp), rfl⟩
    · go_enter Try.func110, Try.ntmps110
      go_wp2_with (go_at_call 64; refine (isSet_any _ _).mono ?_; rintro e w' ⟨rfl, rfl⟩)
      go_ret
      exact ⟨ret_bool (by rw [inSetB, decide_eq_false (by omega : ¬ 0 ≤ i)]; simp), rfl⟩
end Go.Proofs.Ytjnlmiekldflhaa
