/- Bits of whole numbers from 0 on: what Go's operators on int64 give, said of natural numbers. No program is named. -/
import Derived.Laws.BitsAllLaws
import Derived.Laws.BitsLemmas
import Derived.WalkKit
set_option linter.unusedSimpArgs false
set_option linter.unusedVariables false
set_option maxRecDepth 100000
set_option maxHeartbeats 16000000
namespace Go.Proofs.Ytkgoajnnkimkaaa
open Go.RowKit
theorem ofInt_i64 (a : Nat) (ha : a < 9223372036854775808) : (BitVec.ofInt 64 (a : Int)).toNat = a:=by
 rw [BitVec.ofInt_natCast,BitVec.toNat_ofNat];exact Nat.mod_eq_of_lt (by omega)
theorem i64_and_nat (a b : Nat) (ha : a < 9223372036854775808) (hb : b < 9223372036854775808) : bits .and .i64 (a : Int) (b : Int) = ((a &&& b : Nat) : Int):=by
 have hx : a &&& b < 2 ^ 63:=Nat.and_lt_two_pow _ (by omega);show IntKind.i64.wrap ((BitVec.ofInt 64 (a : Int) &&& BitVec.ofInt 64 (b : Int)).toNat : Int) = _
 rw [BitVec.toNat_and,ofInt_i64 a ha,ofInt_i64 b hb,IntKind.wrap_i64];omega
theorem i64_or_nat (a b : Nat) (ha : a < 9223372036854775808) (hb : b < 9223372036854775808) : bits .or .i64 (a : Int) (b : Int) = ((a ||| b : Nat) : Int):=by
 have hx : a ||| b < 2 ^ 63:=Nat.or_lt_two_pow (by omega) (by omega)
 show IntKind.i64.wrap ((BitVec.ofInt 64 (a : Int) ||| BitVec.ofInt 64 (b : Int)).toNat : Int) = _
 rw [BitVec.toNat_or,ofInt_i64 a ha,ofInt_i64 b hb,IntKind.wrap_i64];omega
def andNot (a b : Nat) : Nat:=a &&& (9223372036854775807 - b)
theorem testBit_andNot (a b i : Nat) (ha : a < 9223372036854775808) (hb : b < 9223372036854775808) : (andNot a b).testBit i = (a.testBit i && !b.testBit i):=by
 unfold andNot;rw [Nat.testBit_and];have h : 9223372036854775807 - b = 2 ^ 63 - (b + 1):=by omega
 rw [h,Nat.testBit_two_pow_sub_succ (by omega)];by_cases hi : i < 63
 · simp [hi]
 ·
  have : a.testBit i = false:=Nat.testBit_lt_two_pow (Nat.lt_of_lt_of_le ha (by
   show 2 ^ 63 ≤ 2 ^ i
   exact Nat.pow_le_pow_right (by omega) (by omega)))
  simp [this]
theorem andNot_le (a b : Nat) : andNot a b ≤ a:=Nat.and_le_left
theorem i64_andNot_nat (a b : Nat) (ha : a < 9223372036854775808) (hb : b < 9223372036854775808) : bits .andNot .i64 (a : Int) (b : Int) = ((andNot a b : Nat) : Int):=by
 have hle:=andNot_le a b;have e : (BitVec.ofInt 64 (a : Int) &&& ~~~ BitVec.ofInt 64 (b : Int)).toNat = andNot a b:=by
  rw [BitVec.toNat_and,BitVec.toNat_not,ofInt_i64 a ha,ofInt_i64 b hb];apply Nat.eq_of_testBit_eq;intro i;rw [testBit_andNot a b i ha hb,Nat.testBit_and];have h : 2 ^ 64 - 1 - b = 2 ^ 64 - (b + 1):=by omega
  rw [h,Nat.testBit_two_pow_sub_succ (by omega)];by_cases hi : i < 64
  · simp [hi]
  ·
   have : a.testBit i = false:=Nat.testBit_lt_two_pow (Nat.lt_of_lt_of_le ha (by
    show 2 ^ 63 ≤ 2 ^ i
    exact Nat.pow_le_pow_right (by omega) (by omega)))
   simp [this]
 show IntKind.i64.wrap ((BitVec.ofInt 64 (a : Int) &&& ~~~ BitVec.ofInt 64 (b : Int)).toNat : Int) = _
 rw [e,IntKind.wrap_i64];omega
def isSetB (a : Int) : Bool:=decide (0 ≤ a) && decide (a ≤ 63)
theorem isSetB_nat {a : Int} (h : isSetB a = true) : ∃ n : Nat,a = n ∧ n < 64:=by
 simp only [isSetB,Bool.and_eq_true,decide_eq_true_eq] at h;exact ⟨a.toNat,by omega,by omega⟩
theorem isSetB_of_nat {n : Nat} (h : n < 64) : isSetB (n : Int) = true:=by simp [isSetB];omega
theorem shr_bit (s i : Nat) (hs : s < 9223372036854775808) : (bits .and .i64 ((s : Int) / 2 ^ i) 1 == 1) = s.testBit i:=by
 have h : ((s : Int) / 2 ^ i) = ((s / 2 ^ i : Nat) : Int):=by simp
 have hd : s / 2 ^ i ≤ s:=Nat.div_le_self _ _;rw [h,show (1 : Int) = ((1 : Nat) : Int) from rfl,i64_and_nat _ _ (by omega) (by omega),Nat.testBit_eq_decide_div_mod_eq,Nat.and_one_is_mod];rcases Nat.mod_two_eq_zero_or_one (s / 2 ^ i) with h2 | h2 <;> rw [h2] <;> rfl
theorem shl_one (i : Nat) (hi : i < 62) : wrap64 ((2 : Int) ^ i) = ((2 ^ i : Nat) : Int):=by
 have h1 : 2 ^ i < 2 ^ 62:=Nat.pow_lt_pow_right (by omega) hi;have h2 : ((2 : Int) ^ i) = ((2 ^ i : Nat) : Int):=by simp
 rw [h2];generalize 2 ^ i = m at h1;exact IntWalk.wrap64_in _ ⟨by omega,by omega⟩
theorem and_bit (s i : Nat) : (s &&& 2 ^ i != 0) = s.testBit i:=by
 cases h : s.testBit i
 ·
  have : s &&& 2 ^ i = 0:=by
   apply Nat.eq_of_testBit_eq;intro j;rw [Nat.testBit_and,Nat.testBit_two_pow];by_cases hj : i = j
   · subst hj;simp [h]
   · simp [hj]
  simp [this]
 · rw [bne_iff_ne];intro h0;have:=congrArg (fun n=>n.testBit i) h0;simp [Nat.testBit_and,h] at this
theorem within_eq (a b : Nat) (ha : a < 9223372036854775808) (hb : b < 9223372036854775808) : (andNot a b == 0) = (a &&& b == a):=by
 rw [Bool.eq_iff_iff,beq_iff_eq,beq_iff_eq];constructor
 · intro h;apply Nat.eq_of_testBit_eq;intro i;have:=congrArg (fun n=>n.testBit i) h;simp only [testBit_andNot a b i ha hb,Nat.zero_testBit] at this;rw [Nat.testBit_and];cases h1 : a.testBit i <;> cases h2 : b.testBit i <;> simp_all
 · intro h;apply Nat.eq_of_testBit_eq;intro i;have:=congrArg (fun n=>n.testBit i) h;simp only [Nat.testBit_and] at this;rw [testBit_andNot a b i ha hb];cases h1 : a.testBit i <;> cases h2 : b.testBit i <;> simp_all
theorem without_eq (a b : Nat) (ha : a < 64) (hb : b < 64) : andNot a b = a &&& (63 - b):=by
 apply Nat.eq_of_testBit_eq;intro i;rw [testBit_andNot a b i (by omega) (by omega),Nat.testBit_and];have h : 63 - b = 2 ^ 6 - (b + 1):=by omega
 rw [h,Nat.testBit_two_pow_sub_succ (by omega)];by_cases hi : i < 6
 · simp [hi]
 ·
  have : a.testBit i = false:=Nat.testBit_lt_two_pow (Nat.lt_of_lt_of_le ha (by
   show 2 ^ 6 ≤ 2 ^ i
   exact Nat.pow_le_pow_right (by omega) (by omega)))
  simp [this]
theorem ret_bool {a b : Bool} (h : a = b) : Ending.returned (.bool a) = .returned (.bool b):=by rw [h]
theorem ret_int {a b : Int} (h : a = b) : Ending.returned (.int .i64 a) = .returned (.int .i64 b):=by rw [h]
theorem two_pow_cast (i : Nat) : ((2 : Int) ^ i) = ((2 ^ i : Nat) : Int):=by simp
theorem two_pow_lt (i : Nat) (hi : i < 62) : 2 ^ i < 9223372036854775808 :=
 Nat.lt_trans (Nat.pow_lt_pow_right (by omega) hi) (by omega)
theorem and_bit64 (s i : Nat) (hs : s < 9223372036854775808) (hi : i < 62) : (bits .and .i64 (s : Int) ((2 : Int) ^ i) != 0) = s.testBit i:=by
 rw [two_pow_cast,i64_and_nat _ _ hs (two_pow_lt i hi),← and_bit s i,bne,bne];congr 1
 rw [Bool.eq_iff_iff,beq_iff_eq,beq_iff_eq];omega
theorem or_bit64 (s i : Nat) (hs : s < 9223372036854775808) (hi : i < 62) : bits .or .i64 (s : Int) ((2 : Int) ^ i) = ((s ||| 2 ^ i : Nat) : Int):=by
 rw [two_pow_cast,i64_or_nat _ _ hs (two_pow_lt i hi)]
theorem andNot_bit64 (s i : Nat) (hs : s < 9223372036854775808) (hi : i < 62) : bits .andNot .i64 (s : Int) ((2 : Int) ^ i) = ((andNot s (2 ^ i) : Nat) : Int):=by
 rw [two_pow_cast,i64_andNot_nat _ _ hs (two_pow_lt i hi)]
theorem cast_beq (a b : Nat) : (((a : Int)) == (b : Int)) = (a == b):=by
 rw [Bool.eq_iff_iff,beq_iff_eq,beq_iff_eq];omega
theorem cast_beq_zero (a : Nat) : (((a : Int)) == 0) = (a == 0):=by
 rw [Bool.eq_iff_iff,beq_iff_eq,beq_iff_eq];omega
end Go.Proofs.Ytkgoajnnkimkaaa
namespace Go.Proofs.Ytkgoajnnkimkaaa
inductive Tm where
 | mk (kind num : Int) (name : ByteArray) (kids : List Tm)
def Tm.kind : Tm → Int | .mk k _ _ _=>k
def Tm.num : Tm → Int | .mk _ n _ _=>n
def Tm.name : Tm → ByteArray | .mk _ _ s _=>s
def Tm.kids : Tm → List Tm | .mk _ _ _ ks=>ks
structure Is where
 op : Int
 arg : Int
 term : Tm
 to : Int
structure Cd where
 globals : List ByteArray
 locks : List ByteArray
 procs : List ByteArray
 entry : List Int
 ins : List Is
def Fits (n : Int) : Prop:=-9223372036854775808 ≤ n ∧ n ≤ 9223372036854775807
inductive TmB (L : Nat) : Tm → Prop
 | mk (k n : Int) (s : ByteArray) (ks : List Tm) : Fits k → Fits n → s.size ≤ L → ks.length ≤ L → (∀ i (h : i < ks.length),TmB L ks[i]) → TmB L (.mk k n s ks)
theorem TmB.mono {L M : Nat} (h : L ≤ M) {t : Tm} (b : TmB L t) : TmB M t:=by
 induction b with
 | mk k n s ks h1 h2 h3 h4 h5 ih=>exact .mk k n s ks h1 h2 (by omega) (by omega) ih
theorem TmB.fits {L : Nat} {t : Tm} (b : TmB L t) : Fits t.kind ∧ Fits t.num ∧ t.name.size ≤ L ∧ t.kids.length ≤ L:=by
 cases b with
 | mk k n s ks h1 h2 h3 h4 h5=>exact ⟨h1,h2,h3,h4⟩
theorem TmB.kid {L : Nat} {t : Tm} (b : TmB L t) (i : Nat) (h : i < t.kids.length) : TmB L t.kids[i]:=by
 cases b with
 | mk k n s ks h1 h2 h3 h4 h5=>exact h5 i h
structure IsB (L : Nat) (x : Is) : Prop where
 op : Fits x.op
 arg : Fits x.arg
 term : TmB L x.term
 to : Fits x.to
theorem IsB.mono {L M : Nat} (h : L ≤ M) {x : Is} (b : IsB L x) : IsB M x:=⟨b.op,b.arg,b.term.mono h,b.to⟩
structure CdB (L : Nat) (k : Cd) : Prop where
 globals : k.globals.length ≤ L
 locks : k.locks.length ≤ L
 procs : k.procs.length ≤ L
 entry : k.entry.length ≤ L
 ins : k.ins.length ≤ L
 globalsS : ∀ s ∈ k.globals,s.size ≤ L
 locksS : ∀ s ∈ k.locks,s.size ≤ L
 procsS : ∀ s ∈ k.procs,s.size ≤ L
 entryF : ∀ n ∈ k.entry,Fits n
 insB : ∀ x ∈ k.ins,IsB L x
theorem sizeOf_kid {t : Tm} (i : Nat) (h : i < t.kids.length) : SizeOf.sizeOf t.kids[i] < SizeOf.sizeOf t:=by
 cases t with
 | mk k n s ks =>
  have:=List.sizeOf_lt_of_mem (List.getElem_mem h);simp only [Tm.kids] at this ⊢;simp;omega
theorem Tm.eta (t : Tm) : t = .mk t.kind t.num t.name t.kids:=by cases t;rfl
end Go.Proofs.Ytkgoajnnkimkaaa
namespace Go.Proofs.Ytkgoajnnkimkaaa
mutual
def Tm.cnt : Tm → Nat
 | .mk _ _ _ ks=>Tm.cntL ks
def Tm.cntL : List Tm → Nat
 | []=>0
 | t :: ts=>1 + Tm.cnt t + Tm.cntL ts
end
theorem Tm.cnt_kids (t : Tm) : t.cnt = Tm.cntL t.kids:=by cases t;rw [Tm.cnt,Tm.kids]
theorem cntL_append (a b : List Tm) : Tm.cntL (a ++ b) = Tm.cntL a + Tm.cntL b:=by
 induction a with
 | nil=>simp [Tm.cntL]
 | cons t ts ih=>simp only [List.cons_append,Tm.cntL,ih];omega
theorem cntL_take {ks : List Tm} {j : Nat} (h : j < ks.length) : Tm.cntL (ks.take (j + 1)) = Tm.cntL (ks.take j) + 1 + ks[j].cnt:=by
 rw [List.take_succ_eq_append_getElem h,cntL_append];simp [Tm.cntL];omega
theorem cntL_ge (ks : List Tm) : ks.length ≤ Tm.cntL ks:=by
 induction ks with
 | nil=>simp
 | cons t ts ih=>simp only [List.length_cons,Tm.cntL];omega
theorem cntL_take_le (ks : List Tm) (j : Nat) : Tm.cntL (ks.take j) ≤ Tm.cntL ks:=by
 have:=cntL_append (ks.take j) (ks.drop j);rw [List.take_append_drop] at this;omega
def insCnt (xs : List Is) : Nat:=(xs.map fun x=>1 + x.term.cnt).sum
theorem insCnt_take {ks : List Is} {j : Nat} (h : j < ks.length) : insCnt (ks.take (j + 1)) = insCnt (ks.take j) + 1 + ks[j].term.cnt:=by
 rw [insCnt,insCnt,List.take_succ_eq_append_getElem h,List.map_append,List.sum_append];simp only [List.map_cons,List.map_nil,List.sum_cons,List.sum_nil];omega
theorem insCnt_take_le (ks : List Is) (j : Nat) : insCnt (ks.take j) ≤ insCnt ks:=by
 have : insCnt ks = insCnt (ks.take j) + insCnt (ks.drop j):=by
  rw [insCnt,insCnt,insCnt,← List.sum_append,← List.map_append,List.take_append_drop]
 omega
theorem insCnt_ge (ks : List Is) : ks.length ≤ insCnt ks:=by
 induction ks with
 | nil=>simp
 | cons t ts ih =>
  have : insCnt (t :: ts) = (1 + t.term.cnt) + insCnt ts:=by simp [insCnt]
  simp only [List.length_cons];omega
def Cd.cnt (k : Cd) : Nat:=k.globals.length + k.locks.length + k.procs.length + k.entry.length + insCnt k.ins
end Go.Proofs.Ytkgoajnnkimkaaa
namespace Go.Proofs.Ytkgoajnnkimkaaa
open Classical
inductive Reach (nx : Nat → List Nat) (a : Nat) : Nat → Prop
 | one {n : Nat} : n ∈ nx a → Reach nx a n
 | step {m n : Nat} : Reach nx a m → n ∈ nx m → Reach nx a n
theorem Reach.trans {nx : Nat → List Nat} {a b c : Nat} (h : Reach nx a b) (g : Reach nx b c) : Reach nx a c:=by
 induction g with
 | one hn=>exact .step h hn
 | step _ hn ih=>exact .step ih hn
theorem Reach.head {nx : Nat → List Nat} {a b c : Nat} (h : b ∈ nx a) (g : Reach nx b c) : Reach nx a c:=(Reach.one h).trans g
def Comes (nx : Nat → List Nat) (a b : Nat) : Prop:=b = a ∨ Reach nx a b
theorem Comes.refl (nx : Nat → List Nat) (a : Nat) : Comes nx a a:=.inl rfl
theorem Comes.step {nx : Nat → List Nat} {a b c : Nat} (h : Comes nx a b) (g : c ∈ nx b) : Comes nx a c:=by
 rcases h with rfl | h
 · exact .inr (.one g)
 · exact .inr (.step h g)
theorem Comes.reach {nx : Nat → List Nat} {a b c : Nat} (h : Comes nx a b) (g : c ∈ nx b) : Reach nx a c:=by
 rcases h with rfl | h
 · exact .one g
 · exact .step h g
theorem Comes.trans {nx : Nat → List Nat} {a b c : Nat} (h : Comes nx a b) (g : Comes nx b c) : Comes nx a c:=by
 rcases g with rfl | g
 · exact h
 ·
  rcases h with rfl | h
  · exact .inr g
  · exact .inr (h.trans g)
theorem Reach.inv {nx : Nat → List Nat} {P : Nat → Prop} {a b : Nat} (h : Reach nx a b) (ha : P a) (hs : ∀ x,P x → ∀ n ∈ nx x,P n) : P b:=by
 induction h with
 | one hn=>exact hs _ ha _ hn
 | step _ hn ih=>exact hs _ ih _ hn
theorem Comes.inv {nx : Nat → List Nat} {P : Nat → Prop} {a b : Nat} (h : Comes nx a b) (ha : P a) (hs : ∀ x,P x → ∀ n ∈ nx x,P n) : P b:=by
 rcases h with rfl | h
 · exact ha
 · exact h.inv ha hs
def mkd (ms : List Bool) (b : Nat) : Bool:=(ms[b]?).getD false
theorem mkd_lt {ms : List Bool} {b : Nat} (h : mkd ms b = true) : b < ms.length:=by
 unfold mkd at h;rcases Nat.lt_or_ge b ms.length with h1 | h1
 · exact h1
 · rw [List.getElem?_eq_none h1] at h;simp at h
theorem mkd_get {ms : List Bool} {b : Nat} (h : b < ms.length) : ms[b] = mkd ms b:=by simp [mkd,h]
theorem mkd_set {ms : List Bool} {a : Nat} (h : a < ms.length) (b : Nat) (v : Bool) : mkd (ms.set a v) b = if a = b then v else mkd ms b:=by
 unfold mkd;rw [List.getElem?_set];by_cases e : a = b
 · subst e;simp [h]
 · simp [e]
theorem mkd_replicate (n b : Nat) : mkd (List.replicate n false) b = false:=by
 unfold mkd;rw [List.getElem?_replicate];split <;> rfl
theorem mkd_ext {ms ns : List Bool} (hl : ms.length = ns.length) (h : ∀ b,b < ms.length → mkd ms b = mkd ns b) : ms = ns:=by
 apply List.ext_getElem hl;intro i h1 h2;have:=h i h1;simpa [mkd,h1,h2] using this
def unm : List Bool → Nat
 | []=>0
 | b :: r=>(if b then 0 else 1) + unm r
theorem unm_set : ∀ {ms : List Bool} {a : Nat},a < ms.length → mkd ms a = false → unm (ms.set a true) + 1 = unm ms
 | [],a,h,_=>by simp at h
 | b :: r, 0, _, h0 => by
   have : b = false:=by simpa [mkd] using h0
   subst this;simp [unm];omega
 | b :: r, a + 1, h, h0 => by
   have:=unm_set (ms:=r) (a:=a) (by simpa using h) (by simpa [mkd] using h0);simp only [List.set_cons_succ,unm];omega
theorem unm_le (ms : List Bool) : unm ms ≤ ms.length:=by
 induction ms with
 | nil=>simp [unm]
 | cons b r ih=>simp only [unm,List.length_cons];split <;> omega
noncomputable def markL (n : Nat) (P : Nat → Prop) : List Bool:=(List.range n).map fun i=>decide (P i)
theorem markL_len (n : Nat) (P : Nat → Prop) : (markL n P).length = n:=by simp [markL]
theorem mkd_markL {n : Nat} {P : Nat → Prop} {b : Nat} (h : b < n) : mkd (markL n P) b = decide (P b):=by simp [mkd,markL,h]
theorem mkd_markL_true {n : Nat} {P : Nat → Prop} {b : Nat} : mkd (markL n P) b = true ↔ b < n ∧ P b:=by
 constructor
 · intro h;have hl:=mkd_lt h;rw [markL_len] at hl;rw [mkd_markL hl] at h;exact ⟨hl,by simpa using h⟩
 · rintro ⟨h,hp⟩;rw [mkd_markL h];simpa using hp
theorem eq_markL {ms : List Bool} {n : Nat} {P : Nat → Prop} (hl : ms.length = n) (h : ∀ b,b < n → (mkd ms b = true ↔ P b)) : ms = markL n P:=by
 refine mkd_ext (by rw [hl,markL_len]) fun b hb=>?_;rw [mkd_markL (by omega)];have:=h b (by omega);by_cases e : P b
 · simp [e,this.2 e]
 · have h2 : ¬ mkd ms b = true:=fun h3=>e (this.1 h3);simp only [Bool.not_eq_true] at h2;simp [e,h2]
structure Srch (nx : Nat → List Nat) (a : Nat) (ms0 ms : List Bool) (todo : List Nat) : Prop where
 len : ms.length = ms0.length
 up : ∀ b,mkd ms0 b = true → mkd ms b = true
 frm : ∀ b,mkd ms b = true → mkd ms0 b = true ∨ Reach nx a b
 td : ∀ b ∈ todo,b < ms.length ∧ Comes nx a b
 shut : ∀ b,(b = a ∨ (mkd ms b = true ∧ mkd ms0 b = false)) → b ∈ todo ∨ ∀ n ∈ nx b,mkd ms n = true
section
variable {nx : Nat → List Nat} {a : Nat} {ms0 ms : List Bool} {todo : List Nat}
theorem Srch.start (h : a < ms.length) : Srch nx a ms ms [a] where
 len:=rfl
 up:=fun _ h=>h
 frm:=fun _ h=>.inl h
 td:=fun b hb=>by simp at hb;subst hb;exact ⟨h,.refl _ _⟩
 shut:=fun b hb=>by
  rcases hb with rfl | ⟨h1,h2⟩
  · exact .inl (by simp)
  · rw [h1] at h2;simp at h2
theorem Srch.perm {todo' : List Nat} (h : Srch nx a ms0 ms todo) (e : ∀ b,b ∈ todo ↔ b ∈ todo') : Srch nx a ms0 ms todo' :=
 ⟨h.len,h.up,h.frm,fun b hb=>h.td b ((e b).2 hb),fun b hb=>(h.shut b hb).imp (e b).1 id⟩
theorem Srch.push {x n : Nat} (h : Srch nx a ms0 ms todo) (hx : x ∈ todo) (hn : n ∈ nx x) (hl : n < ms.length) (h0 : mkd ms n = false) : Srch nx a ms0 (ms.set n true) (todo ++ [n]) where
 len:=by simp [h.len]
 up:=fun b hb=>by rw [mkd_set hl];split <;> simp [h.up b hb]
 frm:=fun b hb=>by
  rw [mkd_set hl] at hb;by_cases e : n = b
  · subst e;exact .inr ((h.td x hx).2.reach hn)
  · rw [if_neg e] at hb;exact h.frm b hb
 td:=fun b hb=>by
  rcases List.mem_append.1 hb with hb | hb
  · have:=h.td b hb;exact ⟨by simpa using this.1,this.2⟩
  · simp at hb;subst hb;exact ⟨by simpa using hl,(h.td x hx).2.step hn⟩
 shut:=fun b hb=>by
  by_cases e : b = n
  · exact .inl (by simp [e])
  ·
   have e2 : mkd (ms.set n true) b = mkd ms b:=by rw [mkd_set hl,if_neg (fun h=>e h.symm)]
   rw [e2] at hb;rcases h.shut b hb with h1 | h1
   · exact .inl (List.mem_append_left _ h1)
   ·
    refine .inr fun m hm=>?_;rw [mkd_set hl];split
    · rfl
    · exact h1 m hm
theorem Srch.done {x : Nat} (h : Srch nx a ms0 ms (x :: todo)) (hx : ∀ n ∈ nx x,mkd ms n = true) : Srch nx a ms0 ms todo where
 len:=h.len
 up:=h.up
 frm:=h.frm
 td:=fun b hb=>h.td b (List.mem_cons_of_mem _ hb)
 shut:=fun b hb=>by
  rcases h.shut b hb with h1 | h1
  ·
   rcases List.mem_cons.1 h1 with rfl | h1
   · exact .inr hx
   · exact .inl h1
  · exact .inr h1
theorem Srch.all (h : Srch nx a ms0 ms []) (b : Nat) (hb : Reach nx a b) : (∀ x,mkd ms0 x = true → x ≠ a → ∀ n ∈ nx x,mkd ms0 n = true) → mkd ms b = true:=by
 intro h0;have key : ∀ x,(x = a ∨ mkd ms x = true) → ∀ n ∈ nx x,mkd ms n = true:=by
  intro x hx n hn;by_cases e : x = a
  ·
   rcases h.shut x (.inl e) with h1 | h1
   · simp at h1
   · exact h1 n hn
  ·
   have hm : mkd ms x = true:=by rcases hx with hx | hx;exact absurd hx e;exact hx
   cases e0 : mkd ms0 x
   ·
    rcases h.shut x (.inr ⟨hm,e0⟩) with h1 | h1
    · simp at h1
    · exact h1 n hn
   · exact h.up n (h0 x e0 e n hn)
 induction hb with
 | one hn=>exact key a (.inl rfl) _ hn
 | step _ hn ih=>exact key _ (.inr ih) _ hn
theorem Srch.fresh {n : Nat} (h : Srch nx a (List.replicate n false) ms []) : ms = markL n (Reach nx a):=by
 refine eq_markL (by simpa using h.len) fun b _=>⟨fun hb=>?_,fun hb=>h.all b hb fun x hx=>?_⟩
 ·
  rcases h.frm b hb with h1 | h1
  · rw [mkd_replicate] at h1;simp at h1
  · exact h1
 · rw [mkd_replicate] at hx;simp at hx
theorem Srch.one {n : Nat} (ha : a < n) (h : Srch nx a ((List.replicate n false).set a true) ms []) : ms = markL n (Comes nx a):=by
 have hl : a < (List.replicate n false).length:=by simpa using ha
 have e : ∀ x,mkd ((List.replicate n false).set a true) x = true ↔ x = a:=fun x=>by
  rw [mkd_set hl,mkd_replicate];by_cases e : a = x <;> simp [e]
  exact fun h=>e h.symm
 refine eq_markL (by simpa using h.len) fun b _=>⟨fun hb=>?_,fun hb=>?_⟩
 ·
  rcases h.frm b hb with h1 | h1
  · exact .inl ((e b).1 h1)
  · exact .inr h1
 ·
  rcases hb with rfl | hb
  · exact h.up _ ((e b).2 rfl)
  · exact h.all b hb fun x hx hne=>absurd ((e x).1 hx) hne
end
noncomputable def setN : Nat → (Nat → Prop) → Nat
 | 0,_=>0
 | n + 1,P=>if P n then setN n P ||| 2 ^ n else setN n P
theorem setN_lt (n : Nat) (P : Nat → Prop) : setN n P < 2 ^ n:=by
 induction n with
 | zero=>simp [setN]
 | succ n ih =>
  have h2 : 2 ^ n < 2 ^ (n + 1):=Nat.pow_lt_pow_right (by omega) (by omega);rw [setN];split
  · exact Nat.or_lt_two_pow (by omega) h2
  · omega
theorem testBit_setN (n : Nat) (P : Nat → Prop) (i : Nat) : (setN n P).testBit i = decide (i < n ∧ P i):=by
 induction n with
 | zero=>simp [setN]
 | succ n ih =>
  rw [setN];split
  ·
   rename_i hp;rw [Nat.testBit_or,ih,Nat.testBit_two_pow];by_cases e : n = i
   · subst e;simp [hp]
   ·
    simp only [e,decide_false,Bool.or_false];congr 1
    apply propext;constructor
    · rintro ⟨h1,h2⟩;exact ⟨by omega,h2⟩
    · rintro ⟨h1,h2⟩;exact ⟨by omega,h2⟩
  ·
   rename_i hp;rw [ih];congr 1
   apply propext;constructor
   · rintro ⟨h1,h2⟩;exact ⟨by omega,h2⟩
   ·
    rintro ⟨h1,h2⟩;refine ⟨?_,h2⟩;rcases Nat.lt_or_ge i n with h3 | h3
    · exact h3
    ·
     have : i = n:=by omega
     subst this;exact absurd h2 hp
theorem testBit_setN_true {n : Nat} {P : Nat → Prop} {i : Nat} : (setN n P).testBit i = true ↔ i < n ∧ P i:=by rw [testBit_setN];simp
theorem lt_of_testBit {s n i : Nat} (hs : s < 2 ^ n) (h : s.testBit i = true) : i < n:=by
 rcases Nat.lt_or_ge i n with h1 | h1
 · exact h1
 · rw [Nat.testBit_lt_two_pow (Nat.lt_of_lt_of_le hs (Nat.pow_le_pow_right (by omega) h1))] at h;simp at h
theorem eq_setN {s n : Nat} {P : Nat → Prop} (hs : s < 2 ^ n) (h : ∀ i,i < n → (s.testBit i = true ↔ P i)) : s = setN n P:=by
 apply Nat.eq_of_testBit_eq;intro i;rw [Bool.eq_iff_iff,testBit_setN_true];constructor
 · intro h1;have hl:=lt_of_testBit hs h1;exact ⟨hl,(h i hl).1 h1⟩
 · rintro ⟨h1,h2⟩;exact (h i h1).2 h2
theorem setN_congr {n : Nat} {P Q : Nat → Prop} (h : ∀ i,i < n → (P i ↔ Q i)) : setN n P = setN n Q :=
 eq_setN (setN_lt n P) fun i hi=>by rw [testBit_setN_true];exact ⟨fun h1=>(h i hi).1 h1.2,fun h1=>⟨hi,(h i hi).2 h1⟩⟩
theorem markL_congr {n : Nat} {P Q : Nat → Prop} (h : ∀ i,i < n → (P i ↔ Q i)) : markL n P = markL n Q :=
 eq_markL (markL_len n P) fun i hi=>by rw [mkd_markL_true];exact ⟨fun h1=>(h i hi).1 h1.2,fun h1=>⟨hi,(h i hi).2 h1⟩⟩
noncomputable def listN (n : Nat) (P : Nat → Prop) : List Nat:=(List.range n).filter fun i=>decide (P i)
theorem listN_len (n : Nat) (P : Nat → Prop) : (listN n P).length ≤ n:=by
 have:=List.length_filter_le (fun i=>decide (P i)) (List.range n);simpa [listN] using this
theorem listN_succ (n : Nat) (P : Nat → Prop) : listN (n + 1) P = if P n then listN n P ++ [n] else listN n P:=by
 unfold listN;rw [List.range_succ,List.filter_append];by_cases h : P n <;> simp [h]
theorem mem_listN {n : Nat} {P : Nat → Prop} {i : Nat} : i ∈ listN n P ↔ i < n ∧ P i:=by simp [listN]
theorem listN_congr {n : Nat} {P Q : Nat → Prop} (h : ∀ i,i < n → (P i ↔ Q i)) : listN n P = listN n Q:=by
 unfold listN;apply List.filter_congr;intro i hi;have:=h i (by simpa using hi);simp [this]
end Go.Proofs.Ytkgoajnnkimkaaa
