/- Contracts of toIntS, eqIntS, markIntS, heldIntS. -/
import Derived.Test.YtkgoajnnkimkaaaGreatA5
set_option linter.unusedSimpArgs false
set_option linter.unusedVariables false
set_option maxRecDepth 100000
set_option maxHeartbeats 16000000
namespace Go.Proofs.YtkgoajnnkimkaaaGreat
open Go.ChangeShapes Go.WideShapes Go.ChangeAt Go.RowKit
end Go.Proofs.YtkgoajnnkimkaaaGreat
namespace Go.Proofs.YtkgoajnnkimkaaaGreat
open Go.ChangeShapes Go.WideShapes Go.ChangeAt Go.RowKit
def bitsTo (s k : Nat) : List Nat:=(List.range k).filter fun i=>s.testBit i
def natI (n : Nat) : Int:=n
theorem bitsTo_succ (s k : Nat) : bitsTo s (k + 1) = if s.testBit k then bitsTo s k ++ [k] else bitsTo s k:=by
 unfold bitsTo;rw [List.range_succ,List.filter_append];by_cases h : s.testBit k <;> simp [h]
theorem bitsTo_len (s k : Nat) : (bitsTo s k).length ≤ k:=by
 have:=List.length_filter_le (fun i=>s.testBit i) (List.range k);simpa [bitsTo] using this
theorem bitsTo_stop (s k m : Nat) (h : s < 2 ^ k) (hm : k ≤ m) : bitsTo s m = bitsTo s k:=by
 induction m with
 | zero=>rw [show k = 0 from by omega]
 | succ m ih =>
  rcases Nat.lt_or_ge m k with h1 | h1
  · rw [show k = m + 1 from by omega]
  · rw [bitsTo_succ,if_neg,ih h1];rw [Nat.testBit_lt_two_pow (Nat.lt_of_lt_of_le h (Nat.pow_le_pow_right (by omega) h1))];simp
def bitsL (s : Nat) : List Int:=(bitsTo s 62).map natI
theorem lt_pow_of_div {s k : Nat} (h : s / 2 ^ k = 0) : s < 2 ^ k:=by
 rcases Nat.div_eq_zero_iff.1 h with h | h
 · exact absurd h (Nat.ne_of_gt (Nat.two_pow_pos k))
 · exact h
theorem bitsOf_any (s : Nat) (w : World) (hs : s < 4611686018427387904) :
  Calls Tryz.prog 102 #[.int .i64 s] w (NewRow w 3 1 (bitsL s).length ((bitsL s).map iv)):=by
 go_enter Tryz.func102, Tryz.ntmps102
 go_wp2
 go_loopw [3,4] (fun v i wr=>∃ k : Nat,k ≤ 62 ∧ i = .int .i64 k ∧ wr.ownsRow w.heap.size 3 1 v (bitsTo s k).length (((bitsTo s k).map natI).map iv) ∧ Below w.heap.size w wr) (fun _ i _=>62 - (intOf i).toNat)
 case atStart=>exact ⟨0,by omega,rfl,World.ownsRow_nil _ _ _ _,Below.refl _ _⟩
 case round =>
  rename_i v i;obtain ⟨k,hk,rfl,ho,hb⟩:=hrel;have hsz:=hb.size;obtain ⟨A,c,rfl⟩:=own_form ho;have hlen:=bitsTo_len s k;by_cases hd : s / 2 ^ k = 0
  ·
   have h1 : (((s : Int) / 2 ^ k) != 0) = false:=by
    have : ((s : Int) / 2 ^ k) = ((s / 2 ^ k : Nat) : Int):=by simp
    rw [this,hd];rfl
   have HD:=Lib.hid hd;clear hd;go_wp2
   go_ret
   have e : bitsTo s 62 = bitsTo s k:=bitsTo_stop s k 62 (lt_pow_of_div HD.out) hk;refine ⟨A,c,by simp [bitsL,e],?_,hb⟩;simpa [bitsL,e] using ho
  ·
   have h1 : (((s : Int) / 2 ^ k) != 0) = true:=by
    have : ((s : Int) / 2 ^ k) = ((s / 2 ^ k : Nat) : Int):=by simp
    rw [this,bne_iff_ne];omega
   have hk' : k < 62:=by
    rcases Nat.lt_or_ge k 62 with h | h
    · exact h
    · have : s < 2 ^ k:=Nat.lt_of_lt_of_le (show s < 2 ^ 62 from by omega) (Nat.pow_le_pow_right (by omega) h);exact absurd (Nat.div_eq_of_lt this) hd
   clear hd;have HS:=Lib.hid (bitsTo_succ s k);by_cases hbit : s.testBit k = true
   ·
    have HB:=Lib.hid hbit;clear hbit;go_wp2_with (first
     | (go_at_call 131;refine (hasBit_any _ _ _ (by omega) (by omega)).mono ?_;rintro e w' ⟨rfl,rfl⟩;rw [HB.out])
     | (at_builtin;refine append_int rfl _ _ rfl ho rfl rfl (by omega) hsz ?_;intro A' c' w1 ho1 hg1 _))
    go_roundw
    case rel=>exact ⟨k + 1,by omega,by go_num,by rw [HS.out,if_pos HB.out];simpa [natI] using ho1,below_append hb ho hg1 hsz (Nat.le_refl _)⟩
    case measure=>simp [intOf];omega
   ·
    have HB:=Lib.hid (by simpa using hbit : s.testBit k = false);clear hbit;go_wp2_with (go_at_call 131;refine (hasBit_any _ _ _ (by omega) (by omega)).mono ?_;rintro e w' ⟨rfl,rfl⟩;rw [HB.out])
    go_roundw
    case rel=>exact ⟨k + 1,by omega,by go_num,by rw [HS.out,if_neg (by rw [HB.out];simp)];exact ho,hb⟩
    case measure=>simp [intOf];omega
end Go.Proofs.YtkgoajnnkimkaaaGreat
namespace Go.Proofs.YtkgoajnnkimkaaaGreat
open Go.ChangeShapes Go.WideShapes Go.ChangeAt Go.RowKit
end Go.Proofs.YtkgoajnnkimkaaaGreat
