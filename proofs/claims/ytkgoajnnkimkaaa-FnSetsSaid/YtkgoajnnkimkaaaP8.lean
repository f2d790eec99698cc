/- Plain facts of sets of locks, as the law FnSets asks for them. No program is named. -/
import Derived.Test.YtkgoajnnkimkaaaS1
import Derived.Test.YtkgoajnnkimkaaaD11
set_option linter.unusedSimpArgs false
set_option linter.unusedVariables false
set_option maxRecDepth 100000
set_option maxHeartbeats 16000000
namespace Go.Proofs.Ytkgoajnnkimkaaa
open Go.RowKit
theorem addr_0 (ad : Addr) : ad.add 0 = ad:=by simp [Addr.add]
theorem isSet_and {q r : Nat} (hq : q < 64) : isSetB ((q &&& r : Nat) : Int) = true:=isSetB_of_nat (Nat.lt_of_le_of_lt Nat.and_le_left hq)
theorem isSet_or {q r : Nat} (hq : q < 64) (hr : r < 64) : isSetB ((q ||| r : Nat) : Int) = true:=isSetB_of_nat (Nat.or_lt_two_pow (n:=6) hq hr)
theorem bothV_nat {q r : Nat} (hq : q < 64) (hr : r < 64) : bothV q r = ((q &&& r : Nat) : Int):=by
 rw [bothV,isSetB_of_nat hq,isSetB_of_nat hr];simp
theorem eitherV_nat {q r : Nat} (hq : q < 64) (hr : r < 64) : eitherV q r = ((q ||| r : Nat) : Int):=by
 rw [eitherV,isSetB_of_nat hq,isSetB_of_nat hr];simp
theorem withoutV_nat {q r : Nat} (hq : q < 64) (hr : r < 64) : withoutV q r = ((andNot q r : Nat) : Int):=by
 rw [withoutV,isSetB_of_nat hq,isSetB_of_nat hr];simp
theorem inSet_both {q r : Nat} (hq : q < 64) (hr : r < 64) (i : Int) : inSetB (bothV q r) i = (inSetB q i && inSetB r i):=by
 rw [bothV_nat hq hr];simp only [inSetB,isSet_and hq,isSetB_of_nat hq,isSetB_of_nat hr,Int.toNat_natCast,Nat.testBit_and];cases decide (0 ≤ i) <;> cases decide (i < 6) <;> simp
theorem inSet_either {q r : Nat} (hq : q < 64) (hr : r < 64) (i : Int) : inSetB (eitherV q r) i = (inSetB q i || inSetB r i):=by
 rw [eitherV_nat hq hr];simp only [inSetB,isSet_or hq hr,isSetB_of_nat hq,isSetB_of_nat hr,Int.toNat_natCast,Nat.testBit_or];cases decide (0 ≤ i) <;> cases decide (i < 6) <;> simp
theorem inSet_without {q r : Nat} (hq : q < 64) (hr : r < 64) (i : Int) : inSetB (withoutV q r) i = (inSetB q i && !inSetB r i):=by
 have hle:=andNot_le q r;rw [withoutV_nat hq hr];simp only [inSetB,isSetB_of_nat (Nat.lt_of_le_of_lt hle hq),isSetB_of_nat hq,isSetB_of_nat hr,Int.toNat_natCast,testBit_andNot q r _ (by omega) (by omega)];cases decide (0 ≤ i) <;> cases decide (i < 6) <;> simp
theorem setOf_bits (n k : Nat) (hk : k ≤ 6) : setOf ((bitsTo n k).map natI) = n % 2 ^ k:=by
 induction k with
 | zero=>simp [bitsTo,setOf,Nat.mod_one]
 | succ k ih =>
  have ih:=ih (by omega);rw [bitsTo_succ];cases h : n.testBit k
  ·
   simp only [Bool.false_eq_true,if_false];rw [ih];apply Nat.eq_of_testBit_eq;intro i;rw [Nat.testBit_mod_two_pow,Nat.testBit_mod_two_pow];by_cases e : i = k
   · subst e;simp [h]
   · congr 1;rw [decide_eq_decide];omega
  ·
   simp only [if_true];unfold setOf at ih ⊢;rw [List.map_append,List.foldl_append,ih];simp only [List.map_cons,List.map_nil,List.foldl_cons,List.foldl_nil,addBit,natI];rw [if_pos (by omega),Int.toNat_natCast];apply Nat.eq_of_testBit_eq;intro i;rw [Nat.testBit_or,Nat.testBit_mod_two_pow,Nat.testBit_mod_two_pow,Nat.testBit_two_pow];by_cases e : k = i
   · subst e;simp [h]
   ·
    have e1 : decide (i < k) = decide (i < k + 1):=by rw [decide_eq_decide];omega
    simp [e,e1]
theorem setOf_list {q : Nat} (hq : q < 64) : setOf (listOf q) = q:=by
 have e : listOf q = (bitsTo q 6).map natI:=by simp [listOf,isSetB_of_nat hq,bitsL_six q hq]
 rw [e,setOf_bits q 6 (by omega)];omega
theorem listOf_len (q : Int) : (listOf q).length ≤ 6:=by
 rw [listOf_nat,List.length_map];exact listNat_len q
theorem within_and {q r : Nat} (hq : q < 64) (hr : r < 64) : (withinB q r == (bothV q r == (q : Int))) = true:=by
 rw [bothV_nat hq hr,withinB,isSetB_of_nat hq,isSetB_of_nat hr,cast_beq];simp
theorem within_both {q r : Nat} (hq : q < 64) (hr : r < 64) : withinB (bothV q r) q = true:=by
 rw [bothV_nat hq hr,withinB,isSet_and hq,isSetB_of_nat hq];simp only [Int.toNat_natCast,Bool.true_and,beq_iff_eq];apply Nat.eq_of_testBit_eq;intro i;simp only [Nat.testBit_and];cases q.testBit i <;> simp
theorem within_either {q r : Nat} (hq : q < 64) (hr : r < 64) : withinB q (eitherV q r) = true:=by
 rw [eitherV_nat hq hr,withinB,isSetB_of_nat hq,isSet_or hq hr];simp only [Int.toNat_natCast,Bool.true_and,beq_iff_eq];apply Nat.eq_of_testBit_eq;intro i;simp only [Nat.testBit_and,Nat.testBit_or];cases q.testBit i <;> simp
theorem both_64 (q : Int) : bothV 64 q = 0:=by simp [bothV,isSetB]
theorem names_all {k : Cd} (h : codeOkI k = true) : (namesN k 63).length = k.locks.length:=by
 have hl:=(right_of h).locks;have e : (List.range k.locks.length).filter (fun i : Nat=>inSetB 63 (i : Int)) = List.range k.locks.length:=by
  rw [List.filter_eq_self];intro i hi;have hi:=List.mem_range.1 hi;have h6 : i < 6:=by omega
  have : i = 0 ∨ i = 1 ∨ i = 2 ∨ i = 3 ∨ i = 4 ∨ i = 5:=by omega
  rcases this with rfl | rfl | rfl | rfl | rfl | rfl <;> decide
 rw [namesN,if_pos h,namesTo,e];simp
end Go.Proofs.Ytkgoajnnkimkaaa
