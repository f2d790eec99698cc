/- Contract of the program's SetOf at every list of ints. -/
import Derived.Test.YtkgoajnnkimkaaaA2
import Derived.Laws.StructEq
import Derived.WalkLawsBesides
import Derived.WalkSpells
set_option linter.unusedSimpArgs false
set_option linter.unusedVariables false
set_option maxRecDepth 100000
set_option maxHeartbeats 16000000
namespace Go.Proofs.Ytkgoajnnkimkaaa
open Go.ChangeShapes Go.WideShapes Go.ChangeAt Go.RowKit
def addBit (s : Nat) (i : Int) : Nat:=if 0 ≤ i ∧ i < 6 then s ||| 2 ^ i.toNat else s
def setOf (zs : List Int) : Nat:=zs.foldl addBit 0
theorem addBit_lt {s : Nat} (h : s < 64) (i : Int) : addBit s i < 64:=by
 unfold addBit;split
 · rename_i hi;exact Nat.or_lt_two_pow (n:=6) h (Nat.pow_lt_pow_right (by omega) (by omega))
 · exact h
theorem foldl_addBit_lt (zs : List Int) {s : Nat} (h : s < 64) : zs.foldl addBit s < 64:=by
 induction zs generalizing s with
 | nil=>exact h
 | cons z zs ih=>exact ih (addBit_lt h z)
theorem setOf_lt (zs : List Int) : setOf zs < 64:=foldl_addBit_lt zs (by omega)
theorem setOf_take (zs : List Int) (k : Nat) (h : k < zs.length) : setOf (zs.take (k + 1)) = addBit (setOf (zs.take k)) zs[k]:=by
 unfold setOf;rw [List.take_succ_eq_append_getElem h,List.foldl_append];rfl
theorem setOf_i {B : Nat} (A : Option Addr) (c : Nat) (zs : List Int) (w : World) (h : Rd w B A (zs.map iv)) (hn : zs.length ≤ 1099511627776) :
  Calls Try.prog 20 #[.slice A zs.length c] w fun e w'=>e = .returned (.int .i64 (setOf zs : Int)) ∧ w = w':=by
 go_enter Try.func20, Try.ntmps20
 go_wp2
 go_loop [3,8] (fun s i=>∃ k : Nat,k ≤ zs.length ∧ i = .int .i64 k ∧ s = .int .i64 (setOf (zs.take k) : Int)) (fun _ i=>zs.length - (intOf i).toNat)
 case atStart=>exact ⟨0,Nat.zero_le _,rfl,rfl⟩
 case round =>
  obtain ⟨k,hk,rfl,rfl⟩:=hrel;have hs:=setOf_lt (zs.take k);by_cases hlt : k < zs.length
  ·
   obtain ⟨ad,rfl,_,hc⟩:=h.int hlt;have HT:=Lib.hid (setOf_take zs k hlt);generalize setOf (zs.take k) = s at *;generalize zs[k] = z at *;by_cases hz : 0 ≤ z
   ·
    obtain ⟨i,rfl⟩:=Int.eq_ofNat_of_zero_le hz;clear hz;by_cases hi : i < 6
    ·
     go_wp2
     go_round
     case rel=>exact ⟨k + 1,by omega,by go_num,by rw [HT.out,addBit,if_pos (by omega),Int.toNat_natCast,← or_bit64 _ _ (by omega) (by omega),shl_one i (by omega),two_pow_cast]⟩
     case measure=>simp [intOf];omega
    ·
     go_wp2
     go_round
     case rel=>exact ⟨k + 1,by omega,by go_num,by rw [HT.out,addBit,if_neg (by omega)]⟩
     case measure=>simp [intOf];omega
   ·
    go_wp2
    go_round
    case rel=>exact ⟨k + 1,by omega,by go_num,by rw [HT.out,addBit,if_neg (by omega)]⟩
    case measure=>simp [intOf];omega
  ·
   go_wp2
   go_ret
   exact ⟨ret_int (by rw [List.take_of_length_le (by omega)]),rfl⟩
end Go.Proofs.Ytkgoajnnkimkaaa
