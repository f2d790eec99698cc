/- The code of what is drawn is right. No program is named. -/
import Derived.Test.YtkgoajnnkimkaaaH2
import Derived.Test.YtkgoajnnkimkaaaA7
set_option linter.unusedSimpArgs false
set_option linter.unusedVariables false
set_option maxRecDepth 100000
set_option maxHeartbeats 16000000
namespace Go.Proofs.Ytkgoajnnkimkaaa
open Go.RowKit
mutual
theorem emitS_cnt (ps : List ByteArray) : ∀ (x : St) (a : Nat),(emitS ps a x).length ≤ 2 * St.cnt x
 | .set x t,a=>by simp [emitS,St.cnt]
 | .word k x,a=>by simp [emitS,St.cnt]
 | .skip,a=>by simp [emitS,St.cnt]
 | .loop t l,a=>by
  have:=emitL_cnt ps l (a + 1);simp only [emitS,List.length_append,List.length_cons,List.length_nil,St.cnt];omega
 | .cond t l e,a=>by
  have h1:=emitL_cnt ps l (a + 1);have h2:=emitL_cnt ps e (a + 1 + (emitL ps (a + 1) l).length + 1);simp only [emitS,St.cnt];split
  · simp only [List.length_cons];omega
  · simp only [List.length_append,List.length_cons];omega
theorem emitL_cnt (ps : List ByteArray) : ∀ (l : List St) (a : Nat),(emitL ps a l).length ≤ 2 * St.cntL l
 | [],a=>by simp [emitL]
 | x :: r,a=>by
  have h1:=emitS_cnt ps x a;have h2:=emitL_cnt ps r (a + (emitS ps a x).length);simp only [emitL,List.length_append,St.cntL];omega
end
structure IsG (np : Nat) (lo hi : Int) (x : Is) : Prop where
 op : 1 ≤ x.op ∧ x.op ≤ 8
 arg : 0 ≤ x.arg ∧ x.arg < (if x.op = 1 then 4 else if x.op = 4 ∨ x.op = 5 then np else if x.op = 6 ∨ x.op = 7 then 3 else 1 : Nat)
 term : if x.op = 1 ∨ x.op = 2 then TmG 2 x.term else x.term = zeroT
 to : if x.op = 2 ∨ x.op = 3 then lo ≤ x.to ∧ x.to ≤ hi else x.to = 0
theorem IsG.mono {np : Nat} {lo hi lo' hi' : Int} {x : Is} (h : IsG np lo hi x) (h1 : lo' ≤ lo) (h2 : hi ≤ hi') : IsG np lo' hi' x:=by
 refine ⟨h.op,h.arg,h.term,?_⟩;have:=h.to;split
 · rename_i hh;rw [if_pos hh] at this;omega
 ·
  rename_i hh
  rwa [if_neg hh] at this
theorem placeOf_lt {ss : List ByteArray} {t : ByteArray} (h : t ∈ ss) : 0 ≤ placeOf ss t ∧ placeOf ss t < (ss.length : Nat):=by
 have:=List.idxOf_lt_length_of_mem h;rw [placeOf,if_pos h];omega
mutual
theorem emitS_good (ps : List ByteArray) : ∀ (x : St) (d a : Nat),St.G ps d x → ∀ y ∈ emitS ps a x,IsG ps.length a (a + (emitS ps a x).length) y
 | .set x t,d,a,g,y,hy=>by
  simp only [St.G] at g;simp only [emitS,List.mem_singleton] at hy;subst hy;have hm : x ∈ globL:=by
   have:=g.1;simp only [setL3,globL,List.mem_cons,List.not_mem_nil,or_false] at this ⊢;rcases this with h | h | h <;> simp [h]
  have:=placeOf_lt hm;exact ⟨by simp,by simpa [globL] using this,by simpa using g.2,by simp⟩
 | .word k x,d,a,g,y,hy=>by
  simp only [St.G] at g;simp only [emitS,List.mem_singleton] at hy;subst hy;rcases g with ⟨hk,hx⟩ | ⟨hk,hx⟩
  ·
   have:=placeOf_lt hx;rw [if_pos hk];refine ⟨by simp only;omega,?_,?_,?_⟩
   · simp only;rw [if_neg (by omega),if_pos hk];exact this
   · simp only;rw [if_neg (by omega)];exact trivial
   · simp only;rw [if_neg (by omega)];exact trivial
  ·
   have:=placeOf_lt hx;rw [if_neg (by omega)];refine ⟨by simp only;omega,?_,?_,?_⟩
   · simp only;rw [if_neg (by omega),if_neg (by omega),if_pos hk];exact this
   · simp only;rw [if_neg (by omega)];exact trivial
   · simp only;rw [if_neg (by omega)];exact trivial
 | .skip,d,a,g,y,hy=>by
  simp only [emitS,List.mem_singleton] at hy;subst hy;exact ⟨by simp,by simp,by simp,by simp⟩
 | .loop t l,d,a,g,y,hy=>by
  simp only [St.G] at g;have ih:=emitL_good ps l (d - 1) (a + 1) g.2.2;simp only [emitS,List.mem_append,List.mem_cons,List.not_mem_nil,or_false,List.length_append,List.length_cons,List.length_nil] at hy ⊢;rcases hy with (rfl | hy) | rfl
  · exact ⟨by simp,by simp,by simpa using g.2.1,by simp;omega⟩
  · exact (ih y hy).mono (by omega) (by omega)
  · exact ⟨by simp,by simp,by simp,by simp;omega⟩
 | .cond t l e,d,a,g,y,hy=>by
  simp only [St.G] at g;have ih:=emitL_good ps l (d - 1) (a + 1) g.2.2.1;have ih2:=emitL_good ps e (d - 1) (a + 1 + (emitL ps (a + 1) l).length + 1) g.2.2.2;simp only [emitS] at hy ⊢;by_cases he : e.length = 0
  ·
   rw [if_pos he] at hy ⊢;simp only [List.mem_cons,List.length_cons] at hy ⊢;rcases hy with rfl | hy
   · exact ⟨by simp,by simp,by simpa using g.2.1,by simp;omega⟩
   · exact (ih y hy).mono (by omega) (by omega)
  ·
   rw [if_neg he] at hy ⊢;simp only [List.mem_cons,List.mem_append,List.length_append,List.length_cons] at hy ⊢;rcases hy with (rfl | hy) | rfl | hy
   · exact ⟨by simp,by simp,by simpa using g.2.1,by simp;omega⟩
   · exact (ih y hy).mono (by omega) (by omega)
   · exact ⟨by simp,by simp,by simp,by simp;omega⟩
   · exact (ih2 y hy).mono (by omega) (by omega)
theorem emitL_good (ps : List ByteArray) : ∀ (l : List St) (d a : Nat),St.GL ps d l → ∀ y ∈ emitL ps a l,IsG ps.length a (a + (emitL ps a l).length) y
 | [],d,a,g,y,hy=>by simp [emitL] at hy
 | x :: r,d,a,g,y,hy=>by
  simp only [St.GL] at g;have h1:=emitS_good ps x d a g.1;have h2:=emitL_good ps r d (a + (emitS ps a x).length) g.2;simp only [emitL,List.mem_append,List.length_append] at hy ⊢;rcases hy with hy | hy
  · exact (h1 y hy).mono (by omega) (by omega)
  · exact (h2 y hy).mono (by omega) (by omega)
end
theorem insD_snoc (ps : List ByteArray) (bs : List (List St)) (b : List St) : insD ps (bs ++ [b]) = insD ps bs ++ emitL ps (insD ps bs).length b ++ [endI]:=by
 simp [insD]
theorem insD_take {ps : List ByteArray} {bs : List (List St)} {i : Nat} (h : i < bs.length) : insD ps (bs.take (i + 1)) = insD ps (bs.take i) ++ emitL ps (insD ps (bs.take i)).length bs[i] ++ [endI]:=by
 rw [List.take_succ_eq_append_getElem h,insD_snoc]
def begD (ps : List ByteArray) (bs : List (List St)) (i : Nat) : Nat:=(insD ps (bs.take i)).length
theorem begD_succ {ps : List ByteArray} {bs : List (List St)} {i : Nat} (h : i < bs.length) : begD ps bs (i + 1) = begD ps bs i + (emitL ps (begD ps bs i) bs[i]).length + 1:=by
 unfold begD;rw [insD_take h];simp;omega
theorem insD_pre {ps : List ByteArray} {bs : List (List St)} : ∀ (d i : Nat),i + d = bs.length → ∃ r,insD ps bs = insD ps (bs.take i) ++ r:=by
 intro d;induction d with
 | zero=>intro i h;exact ⟨[],by rw [List.take_of_length_le (by omega)];simp⟩
 | succ d ih =>
  intro i h;obtain ⟨r,hr⟩:=ih (i + 1) (by omega);rw [insD_take (by omega)] at hr;exact ⟨_,by rw [hr,List.append_assoc,List.append_assoc]⟩
theorem insD_parts {ps : List ByteArray} {bs : List (List St)} {i : Nat} (h : i < bs.length) : ∃ r,insD ps bs = insD ps (bs.take i) ++ (emitL ps (begD ps bs i) bs[i] ++ (endI :: r)):=by
 obtain ⟨r,hr⟩:=insD_pre (ps:=ps) (bs:=bs) (bs.length - (i + 1)) (i + 1) (by omega);rw [insD_take h] at hr;exact ⟨r,by rw [hr];simp [begD]⟩
theorem insD_mid {ps : List ByteArray} {bs : List (List St)} {i j : Nat} (h : i < bs.length) (h1 : begD ps bs i ≤ j) (h2 : j + 1 < begD ps bs (i + 1)) : ∃ x,(insD ps bs)[j]? = some x ∧ x ∈ emitL ps (begD ps bs i) bs[i]:=by
 rw [begD_succ h] at h2;obtain ⟨r,hr⟩:=insD_parts (ps:=ps) h;have hl : j - begD ps bs i < (emitL ps (begD ps bs i) bs[i]).length:=by omega
 refine ⟨(emitL ps (begD ps bs i) bs[i])[j - begD ps bs i],?_,List.getElem_mem _⟩;rw [hr,List.getElem?_append_right h1]
 change (emitL ps (begD ps bs i) bs[i] ++ (endI :: r))[j - begD ps bs i]? = _
 rw [List.getElem?_append_left hl];exact List.getElem?_eq_getElem hl
theorem insD_last {ps : List ByteArray} {bs : List (List St)} {i : Nat} (h : i < bs.length) : (insD ps bs)[begD ps bs (i + 1) - 1]? = some endI:=by
 obtain ⟨r,hr⟩:=insD_parts (ps:=ps) h;rw [begD_succ h,hr,List.getElem?_append_right (by unfold begD;omega),List.getElem?_append_right (by unfold begD;omega)];have e : begD ps bs i + (emitL ps (begD ps bs i) bs[i]).length + 1 - 1 - (insD ps (bs.take i)).length - (emitL ps (begD ps bs i) bs[i]).length = 0:=by unfold begD;omega
 rw [e];rfl
theorem begD_zero (ps : List ByteArray) (bs : List (List St)) : begD ps bs 0 = 0:=by simp [begD,insD]
theorem begD_all (ps : List ByteArray) (bs : List (List St)) : begD ps bs bs.length = (insD ps bs).length:=by unfold begD;rw [List.take_of_length_le (Nat.le_refl _)]
theorem begD_mono {ps : List ByteArray} {bs : List (List St)} (d i : Nat) (h : i + d ≤ bs.length) : begD ps bs i ≤ begD ps bs (i + d):=by
 induction d with
 | zero=>exact Nat.le_refl _
 | succ d ih =>
  have h1:=ih (by omega);have h2:=begD_succ (ps:=ps) (bs:=bs) (i:=i + d) (by omega);rw [← Nat.add_assoc];omega
theorem begD_le {ps : List ByteArray} {bs : List (List St)} (hb : ∀ b ∈ bs,St.cntL b ≤ 54) : ∀ i,i ≤ bs.length → begD ps bs i ≤ 109 * i:=by
 intro i;induction i with
 | zero=>intro _;rw [begD_zero];omega
 | succ i ih =>
  intro h;have h1:=ih (by omega);rw [begD_succ (by omega)];have h2:=emitL_cnt ps bs[i] (begD ps bs i);have h3:=hb bs[i] (List.getElem_mem _);omega
theorem emit_no9 {ps : List ByteArray} {d a : Nat} {l : List St} (g : St.GL ps d l) : (emitL ps a l).filter (fun x=>decide (x.op = 9)) = []:=by
 rw [List.filter_eq_nil_iff];intro x hx;have:=(emitL_good ps l d a g x hx).op;simp;omega
theorem insD_ends {ps : List ByteArray} {d : Nat} : ∀ (n : Nat) (bs : List (List St)),bs.length = n → (∀ b ∈ bs,St.GL ps d b) → ((insD ps bs).filter fun x=>decide (x.op = 9)).length = n:=by
 intro n;induction n with
 | zero =>
  intro bs h _;obtain rfl:=List.eq_nil_of_length_eq_zero h;simp [insD]
 | succ n ih =>
  intro bs h hb;rcases List.eq_nil_or_concat bs with rfl | ⟨r,b,rfl⟩
  · simp at h
  · rw [List.concat_eq_append] at hb h ⊢;rw [insD_snoc,List.filter_append,List.filter_append,emit_no9 (hb b (by simp)),List.length_append,List.length_append,ih r (by simpa using h) (fun x hx=>hb x (by simp [hx]))];simp [endI]
section
variable (s : Cr)
theorem entry_len : (codeD s).entry.length = (bodiesD s).length:=by simp [codeD,entD]
theorem entry_at {i : Nat} (h : i < (bodiesD s).length) : entryAt (codeD s) i = (begD (namesD s) (bodiesD s) i : Nat):=by
 simp [entryAt,codeD,entD,h,begD]
theorem end_at {i : Nat} (h : i < (bodiesD s).length) : endP (codeD s) i = (begD (namesD s) (bodiesD s) (i + 1) : Nat):=by
 unfold endP;split
 · rename_i h1;rw [entry_len] at h1;have:=entry_at s h1;rw [entryAt_eq _ _ (by rw [entry_len];exact h1)] at this;exact this
 ·
  rename_i h1;rw [entry_len] at h1;have e : i + 1 = (bodiesD s).length:=by omega
  rw [e,begD_all];rfl
theorem code_names : namesB (codeD s) = true:=by
 have h : ∀ ps : List ByteArray,(ps = [⟨#[109,97,105,110]⟩,⟨#[112]⟩] ∨ ps = [⟨#[109,97,105,110]⟩,⟨#[112]⟩,⟨#[113]⟩] ∨ ps = procL4) → namesB ⟨globL,lockL,ps,[],[]⟩ = true:=by
  rintro ps (rfl | rfl | rfl) <;> decide +kernel
 exact h _ (namesD_cases s).2.2
theorem code_entries : entriesB (codeD s) = true:=by
 obtain ⟨hbl,hbg⟩:=bodiesD_good s;obtain ⟨hn1,hn2,_⟩:=namesD_cases s;have hle:=begD_le (ps:=namesD s) (fun b hb=>(hbg b hb).2) (bodiesD s).length (Nat.le_refl _);rw [begD_all] at hle;unfold entriesB;simp only [Bool.and_eq_true,decide_eq_true_eq,List.all_eq_true,List.mem_range];refine ⟨?_,?_,?_,?_,?_⟩
 ·
  show (insD (namesD s) (bodiesD s)).length ≤ 1500
  omega
 · rw [entry_len,hbl];rfl
 · rw [entry_at s (by omega),begD_zero];rfl
 · have:=insD_ends (bodiesD s).length (bodiesD s) rfl (fun b hb=>(hbg b hb).1);unfold endsTo;rw [List.take_of_length_le (Nat.le_refl _),entry_len];exact this
 ·
  intro i hi;rw [entry_len] at hi;have h1:=begD_succ (ps:=namesD s) hi;have h2:=begD_mono (ps:=namesD s) (bs:=bodiesD s) ((bodiesD s).length - (i + 1)) (i + 1) (by omega);have e : i + 1 + ((bodiesD s).length - (i + 1)) = (bodiesD s).length:=by omega
  rw [e,begD_all] at h2;have h3:=insD_last (ps:=namesD s) hi;unfold rowB;rw [entry_at s hi,end_at s hi];simp only [Bool.and_eq_true,Bool.not_eq_true',decide_eq_false_iff_not,decide_eq_true_eq];refine ⟨by omega,?_,?_⟩
  ·
   show ¬ ((insD (namesD s) (bodiesD s)).length : Int) < _
   omega
  ·
   unfold opAt;have e2 : (((begD (namesD s) (bodiesD s) (i + 1) : Nat) : Int) - 1).toNat = begD (namesD s) (bodiesD s) (i + 1) - 1:=by omega
   rw [e2];show (((insD (namesD s) (bodiesD s))[begD (namesD s) (bodiesD s) (i + 1) - 1]?).map Is.op).getD 0 = 9
   rw [h3];rfl
theorem zeroT_zero : zeroB zeroT = true:=by simp [zeroB,zeroT,Tm.kind,Tm.num,Tm.name,Tm.kids]
theorem IsG.insB {np : Nat} {lo hi : Int} {x : Is} (h : IsG np lo hi x) {k : Cd} (hg : k.globals = globL) (hl : k.locks = lockL) (hp : k.procs.length = np) {b e : Int} (hb : b ≤ lo) (he : hi < e) : Go.Proofs.Ytkgoajnnkimkaaa.insB k x b e = true:=by
 unfold Go.Proofs.Ytkgoajnnkimkaaa.insB;have ho:=h.op;have ha:=h.arg;have ht:=h.term;have hto:=h.to;have e1 : argMost k x.op = (if x.op = 1 then 4 else if x.op = 4 ∨ x.op = 5 then np else if x.op = 6 ∨ x.op = 7 then 3 else 1 : Nat):=by
  unfold argMost;rw [hg,hl,hp];rfl
 rw [e1];simp only [Bool.and_eq_true,decide_eq_true_eq];refine ⟨⟨by omega,by omega,ha.1,ha.2⟩,?_,?_⟩
 ·
  split
  · rename_i hh;rw [if_pos hh] at ht;rw [Bool.and_eq_true,List.all_eq_true];exact ⟨ht.ok 6 (by omega),fun n hn=>by rw [hg];exact decide_eq_true (ht.readsOf hn)⟩
  · rename_i hh;rw [if_neg hh] at ht;rw [ht];exact zeroT_zero
 ·
  split
  · rename_i hh;rw [if_pos hh] at hto;rw [Bool.and_eq_true,decide_eq_true_eq,decide_eq_true_eq];omega
  · rename_i hh;rw [if_neg hh] at hto;exact decide_eq_true hto
theorem endI_insB {k : Cd} {b e : Int} : Go.Proofs.Ytkgoajnnkimkaaa.insB k endI b e = true:=by
 unfold Go.Proofs.Ytkgoajnnkimkaaa.insB;have : argMost k 9 = 1:=by simp [argMost]
 simp [endI,zeroT_zero,this]
theorem code_part {p : Nat} (hp : p < (bodiesD s).length) : partB (codeD s) p = true:=by
 obtain ⟨hbl,hbg⟩:=bodiesD_good s;unfold partB;rw [entry_at s hp,end_at s hp,List.all_eq_true];intro j hj;rw [List.mem_range] at hj;have h1:=begD_succ (ps:=namesD s) hp;have e1 : ((begD (namesD s) (bodiesD s) p : Nat) : Int).toNat = begD (namesD s) (bodiesD s) p:=by omega
 rw [e1];unfold insBat;have hins : (codeD s).ins = insD (namesD s) (bodiesD s):=rfl;rw [hins];by_cases hl : begD (namesD s) (bodiesD s) p + j + 1 < begD (namesD s) (bodiesD s) (p + 1)
 · obtain ⟨x,hx,hm⟩:=insD_mid (ps:=namesD s) hp (j:=begD (namesD s) (bodiesD s) p + j) (by omega) hl;rw [hx];have g:=emitL_good (namesD s) _ 2 (begD (namesD s) (bodiesD s) p) (hbg _ (List.getElem_mem hp)).1 x hm;exact g.insB rfl rfl rfl (by omega) (by omega)
 ·
  have e2 : begD (namesD s) (bodiesD s) p + j = begD (namesD s) (bodiesD s) (p + 1) - 1:=by omega
  rw [e2,insD_last hp];exact endI_insB
theorem codeD_ok : codeOkI (codeD s) = true:=by
 unfold codeOkI;rw [code_names,code_entries,Bool.true_and,Bool.true_and,List.all_eq_true];intro p hp;rw [List.mem_range,entry_len] at hp;exact code_part s hp
theorem insD_mem {ps : List ByteArray} {x : Is} : ∀ (n : Nat) (bs : List (List St)),bs.length = n → x ∈ insD ps bs → x = endI ∨ ∃ b ∈ bs,∃ a,a ≤ (insD ps bs).length ∧ a + (emitL ps a b).length ≤ (insD ps bs).length ∧ x ∈ emitL ps a b:=by
 intro n;induction n with
 | zero =>
  intro bs h hx;obtain rfl:=List.eq_nil_of_length_eq_zero h;simp [insD] at hx
 | succ n ih =>
  intro bs h hx;rcases List.eq_nil_or_concat bs with rfl | ⟨r,b,rfl⟩
  · simp at h
  ·
   rw [List.concat_eq_append] at h hx ⊢;rw [insD_snoc] at hx ⊢;simp only [List.mem_append,List.mem_singleton,List.length_append,List.length_cons,List.length_nil] at hx ⊢;rcases hx with (hx | hx) | hx
   ·
    rcases ih r (by simpa using h) hx with h1 | ⟨c,hc,a,h1,h2,h3⟩
    · exact .inl h1
    · exact .inr ⟨c,.inl hc,a,by omega,by omega,h3⟩
   · exact .inr ⟨b,.inr rfl,_,by omega,by omega,hx⟩
   · exact .inl hx
theorem small_size {x : ByteArray} (h : x ∈ globL ∨ x ∈ lockL ∨ x ∈ procL4) : x.size ≤ 1048576:=by
 simp only [globL,lockL,procL4,List.mem_cons,List.not_mem_nil,or_false] at h;rcases h with (rfl | rfl | rfl | rfl) | (rfl | rfl | rfl) | (rfl | rfl | rfl | rfl) <;> decide
theorem codeD_b : CdB 1048576 (codeD s):=by
 obtain ⟨hbl,hbg⟩:=bodiesD_good s;obtain ⟨hn1,hn2,hn3⟩:=namesD_cases s;have hle:=begD_le (ps:=namesD s) (fun b hb=>(hbg b hb).2) (bodiesD s).length (Nat.le_refl _);rw [begD_all] at hle;have hz : TmB 1048576 zeroT:=.mk _ _ _ _ (by unfold Fits;omega) (by unfold Fits;omega) (by decide) (by simp) (fun i h=>by simp at h);have hins : ∀ x ∈ insD (namesD s) (bodiesD s),IsB 1048576 x:=by
  intro x hx;rcases insD_mem _ _ rfl hx with rfl | ⟨b,hb,a,h1,h2,h3⟩
  · exact ⟨by unfold Fits endI;simp only;omega,by unfold Fits endI;simp only;omega,hz,by unfold Fits endI;simp only;omega⟩
  ·
   have g:=emitL_good (namesD s) b 2 a (hbg b hb).1 x h3;have ho:=g.op;have ha:=g.arg;have ht:=g.term;have hto:=g.to;refine ⟨by unfold Fits;omega,?_,?_,?_⟩
   ·
    unfold Fits;have : (if x.op = 1 then 4 else if x.op = 4 ∨ x.op = 5 then (namesD s).length else if x.op = 6 ∨ x.op = 7 then 3 else 1 : Nat) ≤ 10:=by
     split
     · omega
     ·
      split
      · omega
      · split <;> omega
    omega
   ·
    split at ht
    · exact ht.b
    · rw [ht];exact hz
   · unfold Fits;split at hto <;> omega
 refine ⟨by simp [codeD,globL],by simp [codeD,lockL],?_,?_,?_,?_,?_,?_,?_,hins⟩
 ·
  show (namesD s).length ≤ _
  omega
 · rw [entry_len];omega
 ·
  show (insD (namesD s) (bodiesD s)).length ≤ _
  omega
 · intro x hx;exact small_size (.inl hx)
 · intro x hx;exact small_size (.inr (.inl hx))
 · intro x hx;exact small_size (.inr (.inr (List.mem_of_mem_take hx)))
 ·
  intro n hn;simp only [codeD,entD,List.map_map,List.mem_map,List.mem_range] at hn;obtain ⟨i,hi,rfl⟩:=hn;have h2:=begD_mono (ps:=namesD s) (bs:=bodiesD s) ((bodiesD s).length - i) i (by omega);have e : i + ((bodiesD s).length - i) = (bodiesD s).length:=by omega
  rw [e,begD_all] at h2;unfold begD at h2;unfold Fits;simp only [Function.comp];omega
end
end Go.Proofs.Ytkgoajnnkimkaaa
