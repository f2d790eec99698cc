/- Contracts of the functions on sets of locks, of the program and of the reference, for every int. -/
import Derived.Test.YtbiaddpmohlalaaRows
import Derived.WalkKit
import Derived.ProofKit
import Derived.OpenShut
import Derived.Lib.Hide
import Derived.Test.YtbiaddpmohlalaaBits
set_option linter.unusedSimpArgs false
set_option linter.unusedVariables false
namespace Go.Proofs.Ytbiaddpmohlalaa
open Go.ChangeShapes Go.WideShapes Go.ChangeAt Go.RowKit

theorem isSet_any (a : Int) (w : World) :
    Calls Try.prog 43 #[.int .i64 a] w fun e w' => e = .returned (.bool (isSetB a)) ∧ w = w' := by
  go_enter Try.func43, Try.ntmps43
  go_wp2
  all_goals go_ret
  all_goals refine ⟨?_, rfl⟩
  all_goals simp [isSetB, *]
  omega
theorem l01In_any (x a b : Int) (w : World) :
    Calls Try.prog 44 #[.int .i64 x, .int .i64 a, .int .i64 b] w fun e w' => e = .returned (.bool (decide (a ≤ x) && decide (x ≤ b))) ∧ w = w' := by
  go_enter Try.func44, Try.ntmps44
  go_wp2
  all_goals go_ret
  all_goals refine ⟨?_, rfl⟩
  all_goals simp [*]
  omega
theorem l12Ok_any (a : Int) (w : World) :
    Calls Try.prog 42 #[.int .i64 a] w fun e w' => e = .returned (.bool (isSetB a)) ∧ w = w' := by
  go_enter Try.func42, Try.ntmps42
  go_wp2_with (go_at_call 44; refine (l01In_any _ _ _ _).mono ?_; rintro e w' ⟨rfl, rfl⟩)
  go_ret
  exact ⟨rfl, rfl⟩
theorem hasBit_any (s i : Nat) (w : World) (hs : s < 9223372036854775808) (hi : i < 64) :
    Calls Try.prog 46 #[.int .i64 s, .int .i64 i] w fun e w' => e = .returned (.bool (s.testBit i)) ∧ w = w' := by
  go_enter Try.func46, Try.ntmps46
  go_wp2
  go_ret
  exact ⟨congrArg (fun b => Ending.returned (Value.bool b)) (shr_bit s i hs), rfl⟩
theorem l12Bit_any (i : Nat) (w : World) (hi : i < 62) :
    Calls Try.prog 47 #[.int .i64 i] w fun e w' => e = .returned (.int .i64 ((2 ^ i : Nat) : Int)) ∧ w = w' := by
  go_enter Try.func47, Try.ntmps47
  go_wp2
  go_ret
  exact ⟨congrArg (fun b => Ending.returned (Value.int .i64 b)) (shl_one i hi), rfl⟩
theorem l12In_any (s i : Nat) (w : World) (hs : s < 9223372036854775808) (hi : i < 62) :
    Calls Try.prog 45 #[.int .i64 s, .int .i64 i] w fun e w' => e = .returned (.bool (s.testBit i)) ∧ w = w' := by
  go_enter Try.func45, Try.ntmps45
  go_wp2_with (go_at_call 47; refine (l12Bit_any _ _ hi).mono ?_; rintro e w' ⟨rfl, rfl⟩)
  go_ret
  exact ⟨ret_bool (and_bit64 s i hs hi), rfl⟩

/-- What InSet answers. -/
def inSetB (s i : Int) : Bool := isSetB s && decide (0 ≤ i) && decide (i < 6) && s.toNat.testBit i.toNat
/-- What Within answers. -/
def withinB (a b : Int) : Bool := isSetB a && isSetB b && (a.toNat &&& b.toNat == a.toNat)
/-- What Both answers. -/
def bothV (a b : Int) : Int := if isSetB a && isSetB b then ((a.toNat &&& b.toNat : Nat) : Int) else 0
/-- What Either answers. -/
def eitherV (a b : Int) : Int := if isSetB a && isSetB b then ((a.toNat ||| b.toNat : Nat) : Int) else 0
/-- What Without answers. -/
def withoutV (a b : Int) : Int := if isSetB a && isSetB b then ((andNot a.toNat b.toNat : Nat) : Int) else 0
theorem within_s (a b : Int) (w : World) :
    Calls Try.prog 12 #[.int .i64 a, .int .i64 b] w fun e w' => e = .returned (.bool (withinB a b)) ∧ w = w' := by
  cases ha : isSetB a <;> cases hb : isSetB b
  case true.true =>
    obtain ⟨n, rfl, hn⟩ := isSetB_nat ha
    obtain ⟨m, rfl, hm⟩ := isSetB_nat hb
    go_enter Try.func12, Try.ntmps12
    go_wp2_with (go_at_call 42; refine (l12Ok_any _ _).mono ?_; rintro e w' ⟨rfl, rfl⟩)
    go_ret
    refine ⟨?_, rfl⟩
    exact ret_bool (by rw [withinB, ha, hb, i64_and_nat _ _ (by omega) (by omega), cast_beq]; rfl)
  all_goals go_enter Try.func12, Try.ntmps12
  all_goals go_wp2_with (go_at_call 42; refine (l12Ok_any _ _).mono ?_; rintro e w' ⟨rfl, rfl⟩)
  all_goals go_ret
  all_goals refine ⟨?_, rfl⟩
  all_goals simp [withinB, bothV, eitherV, withoutV, ha, hb]
theorem within_i (a b : Int) (w : World) :
    Calls Try.prog 13 #[.int .i64 a, .int .i64 b] w fun e w' => e = .returned (.bool (withinB a b)) ∧ w = w' := by
  cases ha : isSetB a <;> cases hb : isSetB b
  case true.true =>
    obtain ⟨n, rfl, hn⟩ := isSetB_nat ha
    obtain ⟨m, rfl, hm⟩ := isSetB_nat hb
    go_enter Try.func13, Try.ntmps13
    go_wp2_with (go_at_call 43; refine (isSet_any _ _).mono ?_; rintro e w' ⟨rfl, rfl⟩)
    go_ret
    refine ⟨?_, rfl⟩
    exact ret_bool (by rw [withinB, ha, hb, i64_andNot_nat _ _ (by omega) (by omega), cast_beq_zero, within_eq _ _ (by omega) (by omega)]; rfl)
  all_goals go_enter Try.func13, Try.ntmps13
  all_goals go_wp2_with (go_at_call 43; refine (isSet_any _ _).mono ?_; rintro e w' ⟨rfl, rfl⟩)
  all_goals go_ret
  all_goals refine ⟨?_, rfl⟩
  all_goals simp [withinB, bothV, eitherV, withoutV, ha, hb]
theorem both_s (a b : Int) (w : World) :
    Calls Try.prog 16 #[.int .i64 a, .int .i64 b] w fun e w' => e = .returned (.int .i64 (bothV a b)) ∧ w = w' := by
  cases ha : isSetB a <;> cases hb : isSetB b
  case true.true =>
    obtain ⟨n, rfl, hn⟩ := isSetB_nat ha
    obtain ⟨m, rfl, hm⟩ := isSetB_nat hb
    go_enter Try.func16, Try.ntmps16
    go_wp2_with (go_at_call 42; refine (l12Ok_any _ _).mono ?_; rintro e w' ⟨rfl, rfl⟩)
    go_ret
    refine ⟨?_, rfl⟩
    rw [bothV, ha, hb, if_pos (by rfl), i64_and_nat _ _ (by omega) (by omega)]; simp
  all_goals go_enter Try.func16, Try.ntmps16
  all_goals go_wp2_with (go_at_call 42; refine (l12Ok_any _ _).mono ?_; rintro e w' ⟨rfl, rfl⟩)
  all_goals go_ret
  all_goals refine ⟨?_, rfl⟩
  all_goals simp [withinB, bothV, eitherV, withoutV, ha, hb]
theorem either_s (a b : Int) (w : World) :
    Calls Try.prog 18 #[.int .i64 a, .int .i64 b] w fun e w' => e = .returned (.int .i64 (eitherV a b)) ∧ w = w' := by
  cases ha : isSetB a <;> cases hb : isSetB b
  case true.true =>
    obtain ⟨n, rfl, hn⟩ := isSetB_nat ha
    obtain ⟨m, rfl, hm⟩ := isSetB_nat hb
    go_enter Try.func18, Try.ntmps18
    go_wp2_with (go_at_call 42; refine (l12Ok_any _ _).mono ?_; rintro e w' ⟨rfl, rfl⟩)
    go_ret
    refine ⟨?_, rfl⟩
    rw [eitherV, ha, hb, if_pos (by rfl), i64_or_nat _ _ (by omega) (by omega)]; simp
  all_goals go_enter Try.func18, Try.ntmps18
  all_goals go_wp2_with (go_at_call 42; refine (l12Ok_any _ _).mono ?_; rintro e w' ⟨rfl, rfl⟩)
  all_goals go_ret
  all_goals refine ⟨?_, rfl⟩
  all_goals simp [withinB, bothV, eitherV, withoutV, ha, hb]
theorem both_i (a b : Int) (w : World) :
    Calls Try.prog 17 #[.int .i64 a, .int .i64 b] w fun e w' => e = .returned (.int .i64 (bothV a b)) ∧ w = w' := by
  cases ha : isSetB a <;> cases hb : isSetB b
  case true.true =>
    obtain ⟨n, rfl, hn⟩ := isSetB_nat ha
    obtain ⟨m, rfl, hm⟩ := isSetB_nat hb
    go_enter Try.func17, Try.ntmps17
    go_wp2_with (go_at_call 43; refine (isSet_any _ _).mono ?_; rintro e w' ⟨rfl, rfl⟩)
    go_ret
    refine ⟨?_, rfl⟩
    rw [bothV, ha, hb, if_pos (by rfl), i64_and_nat _ _ (by omega) (by omega)]; simp
  all_goals go_enter Try.func17, Try.ntmps17
  all_goals go_wp2_with (go_at_call 43; refine (isSet_any _ _).mono ?_; rintro e w' ⟨rfl, rfl⟩)
  all_goals go_ret
  all_goals refine ⟨?_, rfl⟩
  all_goals simp [withinB, bothV, eitherV, withoutV, ha, hb]
theorem either_i (a b : Int) (w : World) :
    Calls Try.prog 19 #[.int .i64 a, .int .i64 b] w fun e w' => e = .returned (.int .i64 (eitherV a b)) ∧ w = w' := by
  cases ha : isSetB a <;> cases hb : isSetB b
  case true.true =>
    obtain ⟨n, rfl, hn⟩ := isSetB_nat ha
    obtain ⟨m, rfl, hm⟩ := isSetB_nat hb
    go_enter Try.func19, Try.ntmps19
    go_wp2_with (go_at_call 43; refine (isSet_any _ _).mono ?_; rintro e w' ⟨rfl, rfl⟩)
    go_ret
    refine ⟨?_, rfl⟩
    rw [eitherV, ha, hb, if_pos (by rfl), i64_or_nat _ _ (by omega) (by omega)]; simp
  all_goals go_enter Try.func19, Try.ntmps19
  all_goals go_wp2_with (go_at_call 43; refine (isSet_any _ _).mono ?_; rintro e w' ⟨rfl, rfl⟩)
  all_goals go_ret
  all_goals refine ⟨?_, rfl⟩
  all_goals simp [withinB, bothV, eitherV, withoutV, ha, hb]
theorem without_s (a b : Int) (w : World) :
    Calls Try.prog 20 #[.int .i64 a, .int .i64 b] w fun e w' => e = .returned (.int .i64 (withoutV a b)) ∧ w = w' := by
  cases ha : isSetB a <;> cases hb : isSetB b
  case true.true =>
    obtain ⟨n, rfl, hn⟩ := isSetB_nat ha
    obtain ⟨m, rfl, hm⟩ := isSetB_nat hb
    go_enter Try.func20, Try.ntmps20
    go_wp2_with (go_at_call 42; refine (l12Ok_any _ _).mono ?_; rintro e w' ⟨rfl, rfl⟩)
    go_ret
    refine ⟨?_, rfl⟩
    exact ret_int (by rw [withoutV, ha, hb, if_pos (by rfl), show (63 : Int) - (m : Int) = ((63 - m : Nat) : Int) from by omega, i64_and_nat _ _ (by omega) (by omega), Int.toNat_natCast, Int.toNat_natCast, without_eq n m hn hm])
  all_goals go_enter Try.func20, Try.ntmps20
  all_goals go_wp2_with (go_at_call 42; refine (l12Ok_any _ _).mono ?_; rintro e w' ⟨rfl, rfl⟩)
  all_goals go_ret
  all_goals refine ⟨?_, rfl⟩
  all_goals simp [withinB, bothV, eitherV, withoutV, ha, hb]
theorem without_i (a b : Int) (w : World) :
    Calls Try.prog 21 #[.int .i64 a, .int .i64 b] w fun e w' => e = .returned (.int .i64 (withoutV a b)) ∧ w = w' := by
  cases ha : isSetB a <;> cases hb : isSetB b
  case true.true =>
    obtain ⟨n, rfl, hn⟩ := isSetB_nat ha
    obtain ⟨m, rfl, hm⟩ := isSetB_nat hb
    go_enter Try.func21, Try.ntmps21
    go_wp2_with (go_at_call 43; refine (isSet_any _ _).mono ?_; rintro e w' ⟨rfl, rfl⟩)
    go_ret
    refine ⟨?_, rfl⟩
    rw [withoutV, ha, hb, if_pos (by rfl), i64_andNot_nat _ _ (by omega) (by omega)]; simp
  all_goals go_enter Try.func21, Try.ntmps21
  all_goals go_wp2_with (go_at_call 43; refine (isSet_any _ _).mono ?_; rintro e w' ⟨rfl, rfl⟩)
  all_goals go_ret
  all_goals refine ⟨?_, rfl⟩
  all_goals simp [withinB, bothV, eitherV, withoutV, ha, hb]

theorem inSet_s (s i : Int) (w : World) :
    Calls Try.prog 14 #[.int .i64 s, .int .i64 i] w fun e w' => e = .returned (.bool (inSetB s i)) ∧ w = w' := by
  cases hs : isSetB s
  · go_enter Try.func14, Try.ntmps14
    go_wp2_with (go_at_call 42; refine (l12Ok_any _ _).mono ?_; rintro e w' ⟨rfl, rfl⟩)
    go_ret
    exact ⟨by simp [inSetB, hs], rfl⟩
  · obtain ⟨n, rfl, hn⟩ := isSetB_nat hs
    by_cases hi : 0 ≤ i ∧ i ≤ 5
    · obtain ⟨h0, h5⟩ := hi
      obtain ⟨j, rfl⟩ := Int.eq_ofNat_of_zero_le h0
      have hj : j < 6 := by omega
      go_enter Try.func14, Try.ntmps14
      go_wp2_with (first | (go_at_call 42; refine (l12Ok_any _ _).mono ?_; rintro e w' ⟨rfl, rfl⟩) | (go_at_call 44; refine (l01In_any _ _ _ _).mono ?_; rintro e w' ⟨rfl, rfl⟩) | (go_at_call 45; refine (l12In_any _ _ _ (by omega) (by omega)).mono ?_; rintro e w' ⟨rfl, rfl⟩))
      go_ret
      exact ⟨ret_bool (by rw [inSetB, hs, decide_eq_true (by omega : (0 : Int) ≤ j), decide_eq_true (by omega : (j : Int) < 6)]; rfl), rfl⟩
    · have hd : (decide (0 ≤ i) && decide (i ≤ 5)) = false := by simp; omega
      have he : inSetB n i = false := by
        have : (decide (0 ≤ i) && decide (i < 6)) = false := by simp; omega
        rw [inSetB, Bool.and_assoc (isSetB _), this]; simp
      have HE := Lib.hid he
      clear he hi
      go_enter Try.func14, Try.ntmps14
      go_wp2_with (first | (go_at_call 42; refine (l12Ok_any _ _).mono ?_; rintro e w' ⟨rfl, rfl⟩) | (go_at_call 44; refine (l01In_any _ _ _ _).mono ?_; rintro e w' ⟨rfl, rfl⟩))
      go_ret
      exact ⟨ret_bool HE.out.symm, rfl⟩
theorem inSet_i (s i : Int) (w : World) :
    Calls Try.prog 15 #[.int .i64 s, .int .i64 i] w fun e w' => e = .returned (.bool (inSetB s i)) ∧ w = w' := by
  cases hs : isSetB s
  · go_enter Try.func15, Try.ntmps15
    go_wp2_with (go_at_call 43; refine (isSet_any _ _).mono ?_; rintro e w' ⟨rfl, rfl⟩)
    go_ret
    exact ⟨by simp [inSetB, hs], rfl⟩
  · obtain ⟨n, rfl, hn⟩ := isSetB_nat hs
    by_cases h0 : 0 ≤ i
    · by_cases h6 : i < 6
      · obtain ⟨j, rfl⟩ := Int.eq_ofNat_of_zero_le h0
        have hj : j < 6 := by omega
        go_enter Try.func15, Try.ntmps15
        go_wp2_with (first | (go_at_call 43; refine (isSet_any _ _).mono ?_; rintro e w' ⟨rfl, rfl⟩) | (go_at_call 46; refine (hasBit_any _ _ _ (by omega) (by omega)).mono ?_; rintro e w' ⟨rfl, rfl⟩))
        go_ret
        exact ⟨ret_bool (by rw [inSetB, hs, decide_eq_true (by omega : (0 : Int) ≤ j), decide_eq_true (by omega : (j : Int) < 6)]; rfl), rfl⟩
      · go_enter Try.func15, Try.ntmps15
        go_wp2_with (go_at_call 43; refine (isSet_any _ _).mono ?_; rintro e w' ⟨rfl, rfl⟩)
        go_ret
        exact ⟨ret_bool (by rw [inSetB, decide_eq_false (by omega : ¬ i < 6)]; simp), rfl⟩
    · go_enter Try.func15, Try.ntmps15
      go_wp2_with (go_at_call 43; refine (isSet_any _ _).mono ?_; rintro e w' ⟨rfl, rfl⟩)
      go_ret
      exact ⟨ret_bool (by rw [inSetB, decide_eq_false (by omega : ¬ 0 ≤ i)]; simp), rfl⟩
end Go.Proofs.Ytbiaddpmohlalaa
