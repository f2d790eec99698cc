/- Contract of the reference's l08Ins: instructions with a term; and of CodeOk. -/
import Derived.Test.YtkgoajnnkimkaaaA8
set_option linter.unusedSectionVars false
set_option linter.unusedSimpArgs false
set_option linter.unusedVariables false
set_option maxRecDepth 100000
set_option maxHeartbeats 16000000
namespace Go.Proofs.Ytkgoajnnkimkaaa
open Go.ChangeShapes Go.WideShapes Go.ChangeAt Go.RowKit
def codeOkS (k : Cd) : Bool:=headsB k && (List.range k.ins.length).all (insS k)
end Go.Proofs.Ytkgoajnnkimkaaa
namespace Go.Proofs.Ytkgoajnnkimkaaa
theorem rise_step {k : Cd} (h : ∀ i,i < k.entry.length → riseB k i = true) {i : Nat} (hi : i + 1 < k.entry.length) : entryAt k i < entryAt k (i + 1):=by
 have:=h (i + 1) hi;simp only [riseB,Nat.add_one_ne_zero,if_false,Bool.and_eq_true,decide_eq_true_eq,Nat.add_sub_cancel] at this;exact this.1
theorem rise_lt {k : Cd} (h : ∀ i,i < k.entry.length → riseB k i = true) {i : Nat} (hi : i < k.entry.length) : entryAt k i < k.ins.length:=by
 have:=h i hi;simp only [riseB,Bool.and_eq_true,decide_eq_true_eq] at this;exact this.2
theorem rise_mono {k : Cd} (h : ∀ i,i < k.entry.length → riseB k i = true) {i j : Nat} (hij : i < j) (hj : j < k.entry.length) : entryAt k i < entryAt k j:=by
 induction j with
 | zero=>omega
 | succ j ih =>
  have h1:=rise_step h hj;rcases Nat.lt_or_ge i j with h2 | h2
  · have:=ih h2 (by omega);omega
  ·
   obtain rfl : i = j:=by omega
   exact h1
theorem endP_last {k : Cd} {i : Nat} (h : ¬ i + 1 < k.entry.length) : endP k i = k.ins.length:=by rw [endP,dif_neg h]
theorem endP_next {k : Cd} {i : Nat} (h : i + 1 < k.entry.length) : endP k i = entryAt k (i + 1):=by rw [endP,dif_pos h,entryAt_eq k _ h]
theorem procTo_of {k : Cd} (h : ∀ i,i < k.entry.length → riseB k i = true) {i a : Nat} (hi : i < k.entry.length) (h1 : entryAt k i ≤ a) (h2 : (a : Int) < endP k i) : procI k a = i:=by
 have key : ∀ n,i < n → n ≤ k.entry.length → procTo k a n = i:=by
  intro n;induction n with
  | zero=>intro h;omega
  | succ n ih =>
   intro hin hn;unfold procTo;by_cases e : i = n
   · subst e;rw [if_pos h1]
   ·
    rw [if_neg,ih (by omega) (by omega)];have h3 : i + 1 < k.entry.length:=by omega
    rw [endP_next h3] at h2;have h4 : entryAt k (i + 1) ≤ entryAt k n:=by
     by_cases e2 : i + 1 = n
     · rw [e2];exact Int.le_refl _
     · have:=rise_mono h (i:=i + 1) (j:=n) (by omega) (by omega);omega
    omega
 exact key _ hi (Nat.le_refl _)
theorem proc_in {k : Cd} (h : ∀ i, i < k.entry.length → riseB k i = true) (h0 : entryAt k 0 = 0) (hel : 1 ≤ k.entry.length) {a : Nat} (ha : a < k.ins.length) :
  ∃ i,i < k.entry.length ∧ procI k a = i ∧ entryAt k i ≤ a ∧ (a : Int) < endP k i:=by
 have key : ∀ n,1 ≤ n → n ≤ k.entry.length → ((a : Int) < endP k (n - 1)) → ∃ i,i < n ∧ entryAt k i ≤ a ∧ (a : Int) < endP k i:=by
  intro n;induction n with
  | zero=>intro h;omega
  | succ n ih =>
   intro _ hn hlt;rw [Nat.add_sub_cancel] at hlt;by_cases e : entryAt k n ≤ a
   · exact ⟨n,by omega,e,hlt⟩
   ·
    cases n with
    | zero=>rw [h0] at e;omega
    | succ n =>
     obtain ⟨i,h1,h2,h3⟩:=ih (by omega) (by omega) (by rw [Nat.add_sub_cancel,endP_next (by omega)];omega);exact ⟨i,by omega,h2,h3⟩
 obtain ⟨i,h1,h2,h3⟩:=key k.entry.length hel (Nat.le_refl _) (by rw [endP_last (by omega)];omega);exact ⟨i,h1,procTo_of h h1 h2 h3,h2,h3⟩
theorem opAt_nat (k : Cd) (a : Nat) (h : a < k.ins.length) : opAt k (a : Int) = k.ins[a].op:=by
 rw [opAt,Int.toNat_natCast,List.getElem?_eq_getElem h];rfl
theorem endsTo_step (k : Cd) (a : Nat) (h : a < k.ins.length) : endsTo k (a + 1) = endsTo k a + (if opAt k a = 9 then 1 else 0):=by
 rw [endsTo_succ k a h,opAt_nat k a h]
theorem endsTo_mono (k : Cd) {a b : Nat} (hab : a ≤ b) (hb : b ≤ k.ins.length) : endsTo k a ≤ endsTo k b:=by
 induction b with
 | zero => obtain rfl : a = 0 := by omega
           exact Nat.le_refl _
 | succ b ih =>
  rcases Nat.lt_or_ge a (b + 1) with h | h
  · have:=ih (by omega) (by omega);have:=endsTo_step k b (by omega);omega
  ·
   obtain rfl : a = b + 1:=by omega
   exact Nat.le_refl _
section
variable {k : Cd} (hr : ∀ i,i < k.entry.length → riseB k i = true) (h0 : entryAt k 0 = 0) (hel : 1 ≤ k.entry.length)
include hr h0 hel
theorem entry_nn {i : Nat} (hi : i < k.entry.length) : 0 ≤ entryAt k i:=by
 cases i with
 | zero=>rw [h0];exact Int.le_refl 0
 | succ i=>have:=rise_mono hr (i:=0) (j:=i + 1) (by omega) hi;omega
theorem endP_bounds {i : Nat} (hi : i < k.entry.length) : entryAt k i < endP k i ∧ endP k i ≤ k.ins.length:=by
 by_cases h : i + 1 < k.entry.length
 · rw [endP_next h];have h1:=rise_step hr h;have h2:=rise_lt hr h;omega
 · rw [endP_last h];have h2:=rise_lt hr hi;omega
theorem ends_ge (h9 : ∀ i,i < k.entry.length → opAt k (endP k i - 1) = 9) (i j : Nat) (hij : i ≤ j) (hj : j < k.entry.length) : endsTo k (endP k i).toNat + (j - i) ≤ endsTo k (endP k j).toNat:=by
 induction j with
 | zero => obtain rfl : i = 0 := by omega
           omega
 | succ j ih =>
  rcases Nat.lt_or_ge i (j + 1) with h | h
  ·
   have h1:=ih (by omega) (by omega);have hb:=endP_bounds hr h0 hel hj;have hbj:=endP_bounds hr h0 hel (i:=j) (by omega);have hnn:=entry_nn hr h0 hel hj;rw [endP_next hj] at hbj h1;obtain ⟨m,hm⟩ : ∃ m : Nat,endP k (j + 1) = (m : Int) + 1:=⟨(endP k (j + 1) - 1).toNat,by omega⟩
   have h9':=h9 _ hj;rw [hm,show ((m : Int) + 1 - 1) = (m : Int) from by omega] at h9';have hs:=endsTo_step k m (by omega);rw [if_pos h9'] at hs;have hmo:=endsTo_mono k (a:=(entryAt k (j + 1)).toNat) (b:=m) (by omega) (by omega);rw [hm,show ((m : Int) + 1).toNat = m + 1 from by omega,hs];omega
  ·
   obtain rfl : i = j + 1:=by omega
   omega
theorem ends_first (h9 : ∀ i,i < k.entry.length → opAt k (endP k i - 1) = 9) {i : Nat} (hi : i < k.entry.length) : i + 1 ≤ endsTo k (endP k i).toNat:=by
 have h1:=ends_ge hr h0 hel h9 0 i (by omega) hi;have hb:=endP_bounds hr h0 hel (i:=0) (by omega);rw [h0] at hb;obtain ⟨m,hm⟩ : ∃ m : Nat,endP k 0 = (m : Int) + 1:=⟨(endP k 0 - 1).toNat,by omega⟩
 have h9':=h9 0 (by omega);rw [hm,show ((m : Int) + 1 - 1) = (m : Int) from by omega] at h9';have hs:=endsTo_step k m (by omega);rw [if_pos h9'] at hs;rw [hm,show ((m : Int) + 1).toNat = m + 1 from by omega,hs] at h1;omega
theorem ends_only (h9 : ∀ i,i < k.entry.length → opAt k (endP k i - 1) = 9) (hc : endsTo k k.ins.length = k.entry.length) {i a : Nat} (hi : i < k.entry.length) (h1 : entryAt k i ≤ a) (h2 : (a : Int) < endP k i) (ha : opAt k a = 9) : (a : Int) = endP k i - 1:=by
 apply Classical.byContradiction;intro hne;have hb:=endP_bounds hr h0 hel hi;have hnn:=entry_nn hr h0 hel hi;obtain ⟨m,hm⟩ : ∃ m : Nat,endP k i = (m : Int) + 1:=⟨(endP k i - 1).toNat,by omega⟩
 have h9':=h9 i hi;rw [hm,show ((m : Int) + 1 - 1) = (m : Int) from by omega] at h9';have hs:=endsTo_step k m (by omega);rw [if_pos h9'] at hs;have hs2:=endsTo_step k a (by omega);rw [if_pos ha] at hs2;have hmo:=endsTo_mono k (a:=a + 1) (b:=m) (by omega) (by omega);have hmo2:=endsTo_mono k (a:=(entryAt k i).toNat) (b:=a) (by omega) (by omega);have hbefore : i ≤ endsTo k (entryAt k i).toNat:=by
  cases i with
  | zero=>omega
  | succ i =>
   have h3:=ends_first hr h0 hel h9 (i:=i) (by omega);rw [endP_next hi] at h3;exact h3
 have hge:=ends_ge hr h0 hel h9 i (k.entry.length - 1) (by omega) (by omega);rw [endP_last (i:=k.entry.length - 1) (by omega),hm,show ((m : Int) + 1).toNat = m + 1 from by omega,Int.toNat_natCast,hc,hs] at hge;omega
theorem ends_count (h9 : ∀ a,a < k.ins.length → (opAt k a = 9 ↔ endP k (procN k a) - 1 = a)) {i : Nat} (hi : i < k.entry.length) : endsTo k (endP k i).toNat = i + 1:=by
 have seg : ∀ i,i < k.entry.length → ∀ m : Nat,entryAt k i ≤ m → (m : Int) < endP k i → endsTo k m = endsTo k (entryAt k i).toNat:=by
  intro i hi m;have hb:=endP_bounds hr h0 hel hi;have hnn:=entry_nn hr h0 hel hi;induction m with
  | zero=>intro h1 _;rw [show (entryAt k i).toNat = 0 from by omega]
  | succ m ih =>
   intro h1 h2;by_cases e : entryAt k i = ((m + 1 : Nat) : Int)
   · rw [e];rfl
   · have h3:=ih (by omega) (by omega);have hp:=procTo_of hr hi (a:=m) (by omega) (by omega);have h4:=h9 m (by omega);rw [procN,hp,Int.toNat_natCast] at h4;have hs:=endsTo_step k m (by omega);rw [if_neg (fun h5=>by have:=h4.1 h5;omega)] at hs;omega
 have one : ∀ i,i < k.entry.length → endsTo k (endP k i).toNat = endsTo k (entryAt k i).toNat + 1:=by
  intro i hi;have hb:=endP_bounds hr h0 hel hi;have hnn:=entry_nn hr h0 hel hi;obtain ⟨m,hm⟩ : ∃ m : Nat,endP k i = (m : Int) + 1:=⟨(endP k i - 1).toNat,by omega⟩
  have hp:=procTo_of hr hi (a:=m) (by omega) (by omega);have h4:=h9 m (by omega);rw [procN,hp,Int.toNat_natCast] at h4;have hs:=endsTo_step k m (by omega);rw [if_pos (h4.2 (by omega))] at hs;rw [hm,show ((m : Int) + 1).toNat = m + 1 from by omega,hs,seg i hi m (by omega) (by omega)]
 induction i with
 | zero=>rw [one 0 hi,h0];simp [endsTo]
 | succ i ih =>
  rw [one (i + 1) hi];have h3:=ih (by omega);rw [endP_next hi] at h3;rw [h3]
end
theorem entries_eq {k : Cd} (hel : 1 ≤ k.procs.length) : entriesB k = (decide (k.entry.length = k.procs.length) && (decide (k.ins.length ≤ 1500) && ((List.range k.entry.length).all (riseB k) && (List.range k.ins.length).all (endB k)))):=by
 rw [Bool.eq_iff_iff];simp only [entriesB,Bool.and_eq_true,decide_eq_true_eq,List.all_eq_true,List.mem_range];constructor
 ·
  rintro ⟨h1,h2,h3,h4,h5⟩;have hel' : 1 ≤ k.entry.length:=by omega
  have hrow:=fun i hi=>rowB_parts (h5 i hi);have hr : ∀ i,i < k.entry.length → riseB k i = true:=by
   intro i hi;have hb:=hrow i hi;simp only [riseB,Bool.and_eq_true,decide_eq_true_eq];refine ⟨?_,by omega⟩;cases i with
   | zero=>rw [if_pos rfl];exact decide_eq_true h3
   | succ i =>
    have h6:=hrow i (by omega);rw [endP_next hi] at h6;rw [if_neg (by omega),Nat.add_sub_cancel];exact decide_eq_true h6.1
  refine ⟨h2,h1,hr,fun a ha=>?_⟩;obtain ⟨i,hi,hp,h6,h7⟩:=proc_in hr h3 hel' ha;rw [endB,hp,Int.toNat_natCast,beq_iff_eq];by_cases h9 : opAt k a = 9
  · rw [decide_eq_true h9];exact (decide_eq_true (ends_only hr h3 hel' (fun i hi=>(hrow i hi).2.2) h4 hi h6 h7 h9).symm).symm
  · rw [decide_eq_false h9];refine (decide_eq_false fun h8=>h9 ?_).symm;rw [← h8];exact (hrow i hi).2.2
 ·
  rintro ⟨h2,h1,hr,he⟩;have hel' : 1 ≤ k.entry.length:=by omega
  have h3 : entryAt k 0 = 0:=by
   have:=hr 0 (by omega);simp only [riseB,if_true,Bool.and_eq_true,decide_eq_true_eq] at this;exact this.1
  have h9 : ∀ a,a < k.ins.length → (opAt k a = 9 ↔ endP k (procN k a) - 1 = a):=by
   intro a ha;have:=he a ha;rw [endB,beq_iff_eq,decide_eq_decide] at this;exact this
  refine ⟨h1,h2,h3,?_,fun i hi=>?_⟩
  · have:=ends_count hr h3 hel' h9 (i:=k.entry.length - 1) (by omega);rw [endP_last (by omega),Int.toNat_natCast] at this;omega
  ·
   have hb:=endP_bounds hr h3 hel' hi;have hnn:=entry_nn hr h3 hel' hi;obtain ⟨m,hm⟩ : ∃ m : Nat,endP k i = (m : Int) + 1:=⟨(endP k i - 1).toNat,by omega⟩
   have hp:=procTo_of hr hi (a:=m) (by omega) (by omega);have h4:=h9 m (by omega);rw [procN,hp,Int.toNat_natCast] at h4;simp only [rowB,Bool.and_eq_true,Bool.not_eq_true',decide_eq_false_iff_not,decide_eq_true_eq];refine ⟨by omega,by omega,?_⟩;rw [hm,show ((m : Int) + 1 - 1) = (m : Int) from by omega];exact h4.2 (by omega)
theorem codeOk_eq (k : Cd) : codeOkI k = codeOkS k:=by
 unfold codeOkI codeOkS headsB;cases hn : namesB k
 · rfl
 ·
  have hel:=names_proc hn;rw [Bool.true_and,Bool.true_and,← entries_eq hel];cases he : entriesB k
  · rfl
  ·
   rw [Bool.true_and,Bool.true_and];have he2:=he;rw [entries_eq hel] at he2;simp only [Bool.and_eq_true,decide_eq_true_eq,List.all_eq_true,List.mem_range] at he2;obtain ⟨h2,h1,hr,_⟩:=he2;have h3:=(entriesB_parts he).2.2.1;have hel' : 1 ≤ k.entry.length:=by omega
   rw [Bool.eq_iff_iff];simp only [List.all_eq_true,List.mem_range];constructor
   · intro h a ha;obtain ⟨i,hi,hp,h6,h7⟩:=proc_in hr h3 hel' ha;have hnn:=entry_nn hr h3 hel' hi;have hh:=h i hi;simp only [partB,List.all_eq_true,List.mem_range] at hh;have:=hh (a - (entryAt k i).toNat) (by omega);rw [show (entryAt k i).toNat + (a - (entryAt k i).toNat) = a from by omega] at this;rw [insS,procN,hp,Int.toNat_natCast];exact this
   ·
    intro h i hi;have hb:=endP_bounds hr h3 hel' hi;have hnn:=entry_nn hr h3 hel' hi;simp only [partB,List.all_eq_true,List.mem_range];intro j hj;have ha : (entryAt k i).toNat + j < k.ins.length:=by omega
    have hp:=procTo_of hr hi (a:=(entryAt k i).toNat + j) (by omega) (by omega);have:=h _ ha;rw [insS,procN,hp,Int.toNat_natCast] at this;exact this
end Go.Proofs.Ytkgoajnnkimkaaa
namespace Go.Proofs.Ytkgoajnnkimkaaa
def ent (k : Cd) (p : Nat) : Nat:=(entryAt k p).toNat
def fin (k : Cd) (p : Nat) : Nat:=(endP k p).toNat
structure Right (k : Cd) : Prop where
 ins : k.ins.length ≤ 1500
 globals : k.globals.length ≤ 6
 locks : k.locks.length ≤ 6
 procs : k.procs.length ≤ 8
 main : mainS ∈ k.procs
 nodup : k.procs.Nodup
 entry : k.entry.length = k.procs.length
 ent_eq : ∀ p (h : p < k.entry.length),k.entry[p] = ent k p
 fin_eq : ∀ p,p < k.procs.length → endP k p = fin k p
 zero : ent k 0 = 0
 next : ∀ p,p + 1 < k.procs.length → fin k p = ent k (p + 1)
 last : fin k (k.procs.length - 1) = k.ins.length
 lt : ∀ p,p < k.procs.length → ent k p < fin k p ∧ fin k p ≤ k.ins.length
 proc : ∀ a,a < k.ins.length → procN k a < k.procs.length ∧ ent k (procN k a) ≤ a ∧ a < fin k (procN k a)
 op : ∀ a (h : a < k.ins.length),1 ≤ k.ins[a].op ∧ k.ins[a].op ≤ 9
 arg : ∀ a (h : a < k.ins.length),0 ≤ k.ins[a].arg ∧ k.ins[a].arg < argMost k k.ins[a].op
 to : ∀ a (h : a < k.ins.length),k.ins[a].op = 2 ∨ k.ins[a].op = 3 → (ent k (procN k a) : Int) ≤ k.ins[a].to ∧ k.ins[a].to < fin k (procN k a)
 stop : ∀ a (h : a < k.ins.length),k.ins[a].op = 9 ↔ a + 1 = fin k (procN k a)
theorem right_of {k : Cd} (h : codeOkI k = true) : Right k:=by
 have hS:=h;rw [codeOk_eq] at hS;unfold codeOkS headsB at hS;simp only [Bool.and_eq_true,decide_eq_true_eq,List.all_eq_true,List.mem_range] at hS;obtain ⟨⟨hn,he,hi,hr,hend⟩,hins⟩:=hS;obtain ⟨n1,n2,n3,_,_,n6,n7⟩:=namesB_parts hn;have hel : 1 ≤ k.entry.length:=by rw [he];exact names_proc hn
 have h0 : entryAt k 0 = 0:=by
  have:=hr 0 hel;simp only [riseB,if_true,Bool.and_eq_true,decide_eq_true_eq] at this;exact this.1
 have nn : ∀ p,p < k.entry.length → 0 ≤ entryAt k p:=fun p hp=>rise_nonneg (List.all_eq_true.2 fun i hi=>hr i (List.mem_range.1 hi)) p hp;have bd : ∀ p,p < k.entry.length → entryAt k p < endP k p ∧ endP k p ≤ k.ins.length:=fun p hp=>endP_bounds hr h0 hel hp;have entc : ∀ p,p < k.entry.length → (ent k p : Int) = entryAt k p:=fun p hp=>Int.toNat_of_nonneg (nn p hp);have finc : ∀ p,p < k.entry.length → (fin k p : Int) = endP k p:=fun p hp=>Int.toNat_of_nonneg (by have:=nn p hp;have:=bd p hp;omega);have pin : ∀ a,a < k.ins.length → procN k a < k.entry.length ∧ entryAt k (procN k a) ≤ a ∧ (a : Int) < endP k (procN k a):=fun a ha=>by
  obtain ⟨i,h1,h2,h3,h4⟩:=proc_in hr h0 hel ha;have e : procN k a = i:=by show (procI k a).toNat = i;omega
  rw [e];exact ⟨h1,h3,h4⟩
 simp only [areNamesB,Bool.and_eq_true,decide_eq_true_eq] at n1 n2 n3;have insf : ∀ a (ha : a < k.ins.length),insB k k.ins[a] (entryAt k (procN k a)) (endP k (procN k a)) = true:=fun a ha=>by
  have:=hins a ha;simpa [insS,insBat,ha] using this
 refine ⟨hi,n1.1,n2.1,n3.1,n7,by simpa [twiceB] using n6,he,?_,?_,?_,?_,?_,?_,?_,?_,?_,?_,?_⟩
 · intro p hp;rw [entc p hp,entryAt_eq k p hp]
 · intro p hp;exact (finc p (by omega)).symm
 · have:=entc 0 hel;omega
 · intro p hp;have h1:=finc p (by omega);have h2:=entc (p + 1) (by omega);rw [endP_next (by omega)] at h1;omega
 · have h1:=finc (k.procs.length - 1) (by omega);rw [endP_last (by omega)] at h1;omega
 · intro p hp;have h1:=finc p (by omega);have h2:=entc p (by omega);have h3:=bd p (by omega);omega
 · intro a ha;obtain ⟨p1,p2,p3⟩:=pin a ha;have h1:=finc _ p1;have h2:=entc _ p1;omega
 · intro a ha;have:=insf a ha;simp only [insB,Bool.and_eq_true,decide_eq_true_eq] at this;exact ⟨this.1.1,this.1.2.1⟩
 · intro a ha;have:=insf a ha;simp only [insB,Bool.and_eq_true,decide_eq_true_eq] at this;exact ⟨this.1.2.2.1,this.1.2.2.2⟩
 · intro a ha hop;have:=insf a ha;simp only [insB,Bool.and_eq_true,decide_eq_true_eq,if_pos hop] at this;obtain ⟨p1,p2,p3⟩:=pin a ha;have h1:=finc _ p1;have h2:=entc _ p1;have h3:=this.2.2;omega
 · intro a ha;have he2:=hend a ha;obtain ⟨p1,p2,p3⟩:=pin a ha;have h1:=finc _ p1;have e : endP k (procI k a).toNat = endP k (procN k a):=rfl;simp only [endB,e,opAt_nat k a ha,beq_iff_eq,decide_eq_decide] at he2;omega
end Go.Proofs.Ytkgoajnnkimkaaa
namespace Go.Proofs.Ytkgoajnnkimkaaa
open Classical
def opN (k : Cd) (a : Nat) : Int:=((k.ins[a]?).map Is.op).getD 0
def argN (k : Cd) (a : Nat) : Nat:=(((k.ins[a]?).map Is.arg).getD 0).toNat
def toN (k : Cd) (a : Nat) : Nat:=(((k.ins[a]?).map Is.to).getD 0).toNat
def nextL (k : Cd) (a : Nat) : List Nat :=
 if opN k a = 9 then [] else if opN k a = 3 then [toN k a] else if opN k a = 2 ∧ toN k a ≠ a + 1 then [a + 1,toN k a] else [a + 1]
def LiveP (k : Cd) (p a : Nat) : Prop:=Comes (nextL k) (ent k p) a
def LiveA (k : Cd) (a : Nat) : Prop:=LiveP k (procN k a) a
def OpsP (k : Cd) (o : Int) (p q : Nat) : Prop:=∃ a,LiveP k p a ∧ opN k a = o ∧ argN k a = q
noncomputable def callL (k : Cd) (p : Nat) : List Nat:=listN k.procs.length (OpsP k 4 p)
def FromP (k : Cd) (p q : Nat) : Prop:=Comes (callL k) p q
def mainN (k : Cd) : Nat:=k.procs.idxOf mainS
noncomputable def startL (k : Cd) (r : Nat) : List Nat:=listN k.procs.length fun s=>∃ q,FromP k r q ∧ OpsP k 5 q s
def RootP (k : Cd) (r : Nat) : Prop:=Comes (startL k) (mainN k) r
def UsedP (k : Cd) (q : Nat) : Prop:=∃ r,RootP k r ∧ FromP k r q
end Go.Proofs.Ytkgoajnnkimkaaa
