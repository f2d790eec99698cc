/- Contracts of toIntS, eqIntS, markIntS, heldIntS. -/
import Derived.Test.YtkgoajnnkimkaaaA5
set_option linter.unusedSimpArgs false
set_option linter.unusedVariables false
set_option maxRecDepth 100000
set_option maxHeartbeats 16000000
namespace Go.Proofs.Ytkgoajnnkimkaaa
open Go.ChangeShapes Go.WideShapes Go.ChangeAt Go.RowKit
theorem set_map {α : Type} (f : α → Value) (ys : List α) (k : Nat) (x : α) : (ys.map f).set k (f x) = (ys.set k x).map f:=by rw [List.map_set]
theorem set_agree {α : Type} {xs ys : List α} {k : Nat} {x : α} (hl : ys.length = xs.length) (hx : xs[k]? = some x) (h : ∀ j,j < k → ys[j]? = xs[j]?) : ∀ j,j < k + 1 → (ys.set k x)[j]? = xs[j]?:=by
 intro j hj;rw [List.getElem?_set];by_cases e : k = j
 ·
  subst e;have : k < ys.length:=by rw [hl];exact (List.getElem?_eq_some_iff.1 hx).1
  simp [this,hx]
 · simp [e];exact h j (by omega)
theorem eq_of_agree {α : Type} {xs ys : List α} (hl : ys.length = xs.length) (h : ∀ j,j < xs.length → ys[j]? = xs[j]?) : ys = xs:=by
 apply List.ext_getElem?;intro j;rcases Nat.lt_or_ge j xs.length with hj | hj
 · exact h j hj
 · rw [List.getElem?_eq_none hj,List.getElem?_eq_none (by omega)]
theorem eqIntS_any {B B' : Nat} (A A' : Option Addr) (c d : Nat) (xs ys : List Int) (w : World) (ha : Rd w B A (xs.map iv)) (hb : Rd w B' A' (ys.map iv)) (hx : xs.length ≤ 1099511627776) (hy : ys.length ≤ 1099511627776) :
  Calls Try.prog 30 #[.slice A xs.length c,.slice A' ys.length d] w fun e w'=>e = .returned (.bool (decide (xs = ys))) ∧ ∃ n,w' = w.drewN n:=by
 by_cases hl : xs.length = ys.length
 ·
  have hne : ((xs.length : Int) != ys.length) = false:=by simp [hl]
  have HL:=Lib.hid hl;clear hl
  go_enter Try.func30, Try.ntmps30
  go_wp2
  go_loopw [5] (fun i wr=>∃ k : Nat,k ≤ xs.length ∧ i = .int .i64 k ∧ xs.take k = ys.take k ∧ ∃ n,wr = w.drewN n) (fun i _=>xs.length - (intOf i).toNat)
  case atStart=>exact ⟨0,Nat.zero_le _,rfl,rfl,0,rfl⟩
  case round =>
   obtain ⟨k,hk,rfl,heq,n,rfl⟩:=hrel;have HE:=Lib.hid heq;clear heq;by_cases hlt : k < xs.length
   ·
    have hlt' : k < ys.length:=by have:=HL.out;omega
    obtain ⟨ad,rfl,_,hc⟩:=ha.int hlt;obtain ⟨bd,rfl,_,hd⟩:=hb.int hlt';by_cases he : xs[k] = ys[k]
    ·
     have hq : (xs[k] != ys[k]) = false:=by simp [he]
     have HQ:=Lib.hid he;clear he;go_wp2
     go_quiet (fail)
     go_wp2
     go_roundw
     case rel=>exact ⟨k + 1,by omega,by go_num,by rw [List.take_succ_eq_append_getElem hlt,List.take_succ_eq_append_getElem hlt',HE.out,HQ.out],_,rfl⟩
     case measure=>simp [intOf];omega
    ·
     have hq : (xs[k] != ys[k]) = true:=by simp [he]
     go_wp2
     go_quiet (fail)
     go_wp2
     go_ret
     have : xs ≠ ys:=by rintro rfl;exact he rfl
     exact ⟨by simp [this],_,World.drewN_drewN ..⟩
   ·
    go_wp2
    go_ret
    refine ⟨?_,_,rfl⟩;have h1:=HE.out;rw [List.take_of_length_le (by omega),List.take_of_length_le (by have:=HL.out;omega)] at h1;simp [h1]
 ·
  have hne : ((xs.length : Int) != ys.length) = true:=by simp;omega
  go_enter Try.func30, Try.ntmps30
  go_wp2
  go_ret
  have : xs ≠ ys:=by rintro rfl;exact hl rfl
  exact ⟨by simp [this],0,rfl⟩
def upFrom (k n : Nat) : List Int:=(List.range n).map fun i=>((k + i : Nat) : Int)
theorem upFrom_length (k n : Nat) : (upFrom k n).length = n:=by simp [upFrom]
theorem upFrom_get (k n i : Nat) (h : i < n) : (upFrom k n)[i]? = some ((k + i : Nat) : Int):=by simp [upFrom,h]
theorem markIntS_any {base : Nat} (A : Option Addr) (c n k : Nat) (xs : List Value) (w : World) (ho : w.ownsRow base 3 1 (.slice A n c) n xs) (hn : n ≤ 1099511627776) (hk : k ≤ 4611686018427387904) :
  Calls Try.prog 32 #[.slice A n c,.int .i64 k] w fun e w'=>e = .returned (.int .i64 ((k + n : Nat) : Int)) ∧ w'.ownsRow base 3 1 (.slice A n c) n ((upFrom k n).map iv) ∧ w.grownBy w' (Value.slice A n c).ownBlock:=by
 rcases Nat.eq_zero_or_pos n with h0 | hp
 ·
  subst h0
  go_enter Try.func32, Try.ntmps32
  go_wp2
  go_loopw [1,5] (fun q i wr=>q = .int .i64 (k : Int) ∧ i = .int .i64 0 ∧ wr = w) (fun _ _ _=>0)
  case atStart=>exact ⟨rfl,rfl,rfl⟩
  case round =>
   obtain ⟨rfl,rfl,rfl⟩:=hrel;go_wp2
   go_ret
   have : xs = []:=List.eq_nil_of_length_eq_zero (own_len ho);subst this;exact ⟨rfl,ho,World.grownBy.refl _ _⟩
 ·
  obtain ⟨g,rfl⟩ : ∃ g,A = some ⟨g,0,none⟩:=by
   rcases ho.2 with ⟨e,h0⟩ | ⟨g,cap,cur,e,_⟩
   · omega
   · injection e with e;exact ⟨g,e⟩
  go_enter Try.func32, Try.ntmps32
  go_wp2
  go_loopw [1,5] (fun q i wr=>∃ (j : Nat) (ys : List Value),j ≤ n ∧ i = .int .i64 j ∧ q = .int .i64 ((k + j : Nat) : Int) ∧ (∀ m,m < j → ys[m]? = ((upFrom k n).map iv)[m]?) ∧ wr.ownsRow base 3 1 (.slice (some ⟨g,0,none⟩) n c) n ys ∧ w.grownBy wr (some g)) (fun _ i _=>n - (intOf i).toNat)
  case atStart=>exact ⟨0,xs,Nat.zero_le _,rfl,rfl,by simp,ho,World.grownBy.refl _ _⟩
  case round =>
   obtain ⟨j,ys,hj,rfl,rfl,hag,ho',hg⟩:=hrel;have HA:=Lib.hid hag;clear hag;by_cases hlt : j < n
   ·
    obtain ⟨u,hu⟩:=own_has ho' (j:=j) (by omega);have hf:=ho'.frozenAt j;go_wp2
    go_roundw
    case rel =>
     obtain ⟨s1,s2⟩:=ho'.stored j (iv ((k + j : Nat) : Int));refine ⟨j + 1,_,by omega,by go_num,by go_num,?_,s1,hg.trans s2⟩;exact set_agree (by rw [own_len ho'];simp [upFrom_length]) (by rw [List.getElem?_map,upFrom_get k n j hlt];rfl) HA.out
    case measure=>simp [intOf];omega
   ·
    go_wp2
    go_ret
    obtain rfl : j = n:=by omega
    have e : ys = (upFrom k j).map iv:=eq_of_agree (by rw [own_len ho'];simp [upFrom_length]) (by simpa [upFrom_length] using HA.out);subst e;exact ⟨rfl,ho',hg⟩
theorem heldIntS_any {B : Nat} (A : Option Addr) (c n k : Nat) (w : World) (h : Rd w B A ((upFrom k n).map iv)) (hn : n ≤ 1099511627776) (hk : k ≤ 4611686018427387904) :
  Calls Try.prog 33 #[.slice A n c,.int .i64 k] w fun e w'=>e = .returned (.int .i64 ((k + n : Nat) : Int)) ∧ ∃ m,w' = w.drewN m:=by
 go_enter Try.func33, Try.ntmps33
 go_wp2
 go_loopw [1,5] (fun q i wr=>∃ j : Nat,j ≤ n ∧ i = .int .i64 j ∧ q = .int .i64 ((k + j : Nat) : Int) ∧ ∃ m,wr = w.drewN m) (fun _ i _=>n - (intOf i).toNat)
 case atStart=>exact ⟨0,Nat.zero_le _,rfl,rfl,0,rfl⟩
 case round =>
  obtain ⟨j,hj,rfl,rfl,m,rfl⟩:=hrel;by_cases hlt : j < n
  ·
   obtain ⟨ad,rfl,_,hc⟩:=h.int (k:=j) (by rw [upFrom_length];exact hlt);have e : (upFrom k n)[j]'(by rw [upFrom_length];exact hlt) = ((k + j : Nat) : Int):=by simp [upFrom]
   rw [e] at hc;clear e;go_wp2
   go_roundw
   case rel=>exact ⟨j + 1,by omega,by go_num,by go_num,_,rfl⟩
   case measure=>simp [intOf];omega
  ·
   go_wp2
   go_ret
   obtain rfl : j = n:=by omega
   exact ⟨rfl,_,rfl⟩
end Go.Proofs.Ytkgoajnnkimkaaa
namespace Go.Proofs.Ytkgoajnnkimkaaa
open Go.ChangeShapes Go.WideShapes Go.ChangeAt Go.RowKit
def bitsTo (s k : Nat) : List Nat:=(List.range k).filter fun i=>s.testBit i
def natI (n : Nat) : Int:=n
theorem bitsTo_succ (s k : Nat) : bitsTo s (k + 1) = if s.testBit k then bitsTo s k ++ [k] else bitsTo s k:=by
 unfold bitsTo;rw [List.range_succ,List.filter_append];by_cases h : s.testBit k <;> simp [h]
theorem bitsTo_len (s k : Nat) : (bitsTo s k).length ≤ k:=by
 have:=List.length_filter_le (fun i=>s.testBit i) (List.range k);simpa [bitsTo] using this
theorem bitsTo_stop (s k m : Nat) (h : s < 2 ^ k) (hm : k ≤ m) : bitsTo s m = bitsTo s k:=by
 induction m with
 | zero=>rw [show k = 0 from by omega]
 | succ m ih =>
  rcases Nat.lt_or_ge m k with h1 | h1
  · rw [show k = m + 1 from by omega]
  · rw [bitsTo_succ,if_neg,ih h1];rw [Nat.testBit_lt_two_pow (Nat.lt_of_lt_of_le h (Nat.pow_le_pow_right (by omega) h1))];simp
def bitsL (s : Nat) : List Int:=(bitsTo s 62).map natI
theorem lt_pow_of_div {s k : Nat} (h : s / 2 ^ k = 0) : s < 2 ^ k:=by
 rcases Nat.div_eq_zero_iff.1 h with h | h
 · exact absurd h (Nat.ne_of_gt (Nat.two_pow_pos k))
 · exact h
theorem bitsOf_any (s : Nat) (w : World) (hs : s < 4611686018427387904) :
  Calls Try.prog 39 #[.int .i64 s] w (NewRow w 3 1 (bitsL s).length ((bitsL s).map iv)):=by
 go_enter Try.func39, Try.ntmps39
 go_wp2
 go_loopw [3,4] (fun v i wr=>∃ k : Nat,k ≤ 62 ∧ i = .int .i64 k ∧ wr.ownsRow w.heap.size 3 1 v (bitsTo s k).length (((bitsTo s k).map natI).map iv) ∧ Below w.heap.size w wr) (fun _ i _=>62 - (intOf i).toNat)
 case atStart=>exact ⟨0,by omega,rfl,World.ownsRow_nil _ _ _ _,Below.refl _ _⟩
 case round =>
  rename_i v i;obtain ⟨k,hk,rfl,ho,hb⟩:=hrel;have hsz:=hb.size;obtain ⟨A,c,rfl⟩:=own_form ho;have hlen:=bitsTo_len s k;by_cases hd : s / 2 ^ k = 0
  ·
   have h1 : (((s : Int) / 2 ^ k) != 0) = false:=by
    have : ((s : Int) / 2 ^ k) = ((s / 2 ^ k : Nat) : Int):=by simp
    rw [this,hd];rfl
   have HD:=Lib.hid hd;clear hd;go_wp2
   go_ret
   have e : bitsTo s 62 = bitsTo s k:=bitsTo_stop s k 62 (lt_pow_of_div HD.out) hk;refine ⟨A,c,by simp [bitsL,e],?_,hb⟩;simpa [bitsL,e] using ho
  ·
   have h1 : (((s : Int) / 2 ^ k) != 0) = true:=by
    have : ((s : Int) / 2 ^ k) = ((s / 2 ^ k : Nat) : Int):=by simp
    rw [this,bne_iff_ne];omega
   have hk' : k < 62:=by
    rcases Nat.lt_or_ge k 62 with h | h
    · exact h
    · have : s < 2 ^ k:=Nat.lt_of_lt_of_le (show s < 2 ^ 62 from by omega) (Nat.pow_le_pow_right (by omega) h);exact absurd (Nat.div_eq_of_lt this) hd
   clear hd;have HS:=Lib.hid (bitsTo_succ s k);by_cases hbit : s.testBit k = true
   ·
    have HB:=Lib.hid hbit;clear hbit;go_wp2_with (first
     | (go_at_call 38;refine (hasBit_any _ _ _ (by omega) (by omega)).mono ?_;rintro e w' ⟨rfl,rfl⟩;rw [HB.out])
     | (at_builtin;refine append_int rfl _ _ rfl ho rfl rfl (by omega) hsz ?_;intro A' c' w1 ho1 hg1 _))
    go_roundw
    case rel=>exact ⟨k + 1,by omega,by go_num,by rw [HS.out,if_pos HB.out];simpa [natI] using ho1,below_append hb ho hg1 hsz (Nat.le_refl _)⟩
    case measure=>simp [intOf];omega
   ·
    have HB:=Lib.hid (by simpa using hbit : s.testBit k = false);clear hbit;go_wp2_with (go_at_call 38;refine (hasBit_any _ _ _ (by omega) (by omega)).mono ?_;rintro e w' ⟨rfl,rfl⟩;rw [HB.out])
    go_roundw
    case rel=>exact ⟨k + 1,by omega,by go_num,by rw [HS.out,if_neg (by rw [HB.out];simp)];exact ho,hb⟩
    case measure=>simp [intOf];omega
def listOf (s : Int) : List Int:=if isSetB s then bitsL s.toNat else []
theorem bitsL_six (s : Nat) (h : s < 64) : bitsL s = (bitsTo s 6).map natI:=by rw [bitsL,bitsTo_stop s 6 62 h (by omega)]
theorem listOf_i (s : Int) (w : World) : Calls Try.prog 21 #[.int .i64 s] w (NewRow w 3 1 (listOf s).length ((listOf s).map iv)):=by
 cases hs : isSetB s
 ·
  go_enter Try.func21, Try.ntmps21
  go_wp2_with (go_at_call 37;refine (isSet_any _ _).mono ?_;rintro e w' ⟨rfl,rfl⟩)
  go_ret
  have e : listOf s = []:=by simp [listOf,hs]
  rw [e];exact ⟨none,0,rfl,World.ownsRow_nil _ _ _ _,Below.refl _ _⟩
 ·
  obtain ⟨n,rfl,hn⟩:=isSetB_nat hs;have e : listOf n = bitsL n:=by simp [listOf,hs]
  rw [e];clear e
  go_enter Try.func21, Try.ntmps21
  go_wp2_with (first | (go_at_call 37;refine (isSet_any _ _).mono ?_;rintro e w' ⟨rfl,rfl⟩) | (go_at_call 39;refine (bitsOf_any n _ (by omega)).mono ?_;rintro e w1 ⟨A,c,rfl,ho,hb⟩))
  go_ret
  exact ⟨A,c,rfl,ho,hb⟩
end Go.Proofs.Ytkgoajnnkimkaaa
namespace Go.Proofs.Ytkgoajnnkimkaaa
open Go.ChangeShapes Go.WideShapes Go.ChangeAt Go.RowKit
def Szd (w : World) (left : Nat) (P : Nat → Prop) (e : Ending) (w' : World) : Prop :=
 Below w.heap.size w w' ∧ ((e = .returned (.int .i64 (-1))) ∨ ∃ r : Nat,e = .returned (.int .i64 r) ∧ r ≤ left ∧ P r)
end Go.Proofs.Ytkgoajnnkimkaaa
