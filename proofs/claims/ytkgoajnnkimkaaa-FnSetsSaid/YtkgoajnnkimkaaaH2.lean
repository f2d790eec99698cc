/- What is drawn is right: terms, statements, programs. No program is named. -/
import Derived.Test.YtkgoajnnkimkaaaA5
import Derived.Test.YtkgoajnnkimkaaaH1
set_option linter.unusedSimpArgs false
set_option linter.unusedVariables false
set_option maxRecDepth 100000
set_option maxHeartbeats 16000000
namespace Go.Proofs.Ytkgoajnnkimkaaa
open Go.RowKit
theorem and255 (a : Int) : 0 ≤ bits .and .i64 a 255 ∧ bits .and .i64 a 255 < 256:=by
 have e : bits .and .i64 a 255 = IntKind.i64.wrap ((BitVec.ofInt 64 a &&& BitVec.ofInt 64 255).toNat : Int):=rfl;have h : (BitVec.ofInt 64 a &&& BitVec.ofInt 64 255).toNat ≤ 255:=by
  rw [BitVec.toNat_and];exact Nat.le_trans Nat.and_le_right (by decide)
 rw [e,IntKind.wrap_i64];omega
theorem byteD_lt (s : Cr) : (byteD s).1 < 256:=by
 unfold byteD mixH;split
 · have:=and255 (wrap64 (mixH (nextH s.h) + wrap64 ((s.b[s.i].toNat : Nat) : Int)));unfold mixH at this;simp only;omega
 · have:=and255 (bits .xor .i64 (nextH s.h / 8589934592) (nextH s.h / 35184372088832));simp only;omega
theorem belowD_lt {n : Nat} (s : Cr) (h : 0 < n) : (belowD n s).1 < n:=Nat.mod_lt _ h
theorem pickD_mem {xs : List ByteArray} (s : Cr) (h : xs ≠ []) : (pickD xs s).1 ∈ xs:=by
 have hl:=belowD_lt s (List.length_pos_iff.2 h);show (xs[(belowD xs.length s).1]?).getD ⟨#[]⟩ ∈ xs
 rw [List.getElem?_eq_getElem hl];exact List.getElem_mem hl
theorem pickI_mem {xs : List Int} (s : Cr) (h : xs ≠ []) : (pickI xs s).1 ∈ xs:=by
 have hl:=belowD_lt s (List.length_pos_iff.2 h);show (xs[(belowD xs.length s).1]?).getD 0 ∈ xs
 rw [List.getElem?_eq_getElem hl];exact List.getElem_mem hl
inductive TmG : Nat → Tm → Prop
 | num (d : Nat) (n : Int) : 0 ≤ n → n ≤ 1000000000 → TmG d (.mk 1 n ⟨#[]⟩ [])
 | var (d : Nat) (x : ByteArray) : x ∈ globL → TmG d (.mk 2 0 x [])
 | not (d : Nat) (t : Tm) : TmG d t → TmG (d + 1) (.mk 8 0 ⟨#[]⟩ [t])
 | two (d : Nat) (k : Int) (a b : Tm) : k ∈ kindL → TmG d a → TmG d b → TmG (d + 1) (.mk k 0 ⟨#[]⟩ [a,b])
theorem leafD_good (d k : Nat) (s : Cr) : TmG d (leafD k s).1:=by
 unfold leafD;split
 ·
  have h:=pickI_mem s (xs:=numL) (by simp [numL]);have h2 : 0 ≤ (pickI numL s).1 ∧ (pickI numL s).1 ≤ 1000000000:=by
   generalize (pickI numL s).1 = n at h ⊢;simp only [numL,List.mem_cons,List.not_mem_nil,or_false] at h;omega
  exact .num d _ h2.1 h2.2
 · refine .var d _ ?_;have h:=pickD_mem s (xs:=readL) (by simp [readL]);generalize (pickD readL s).1 = n at h ⊢;simp only [readL,globL,List.mem_cons,List.not_mem_nil,or_false] at h ⊢;rcases h with h | h | h | h | h <;> simp [h]
theorem termD_good : ∀ (d : Nat) (s : Cr),TmG d (termD d s).1:=by
 intro d;induction d with
 | zero=>intro s;exact leafD_good 0 _ _
 | succ d ih =>
  intro s;unfold termD;split
  · exact leafD_good _ _ _
  ·
   split
   · exact .not d _ (ih _)
   · exact .two d _ _ _ (pickI_mem _ (by simp [kindL])) (ih _) (ih _)
theorem glob_name {x : ByteArray} (h : x ∈ globL) : isNameB x = true:=by
 simp only [globL,List.mem_cons,List.not_mem_nil,or_false] at h;rcases h with rfl | rfl | rfl | rfl <;> decide +kernel
theorem lock_name {x : ByteArray} (h : x ∈ lockL) : isNameB x = true:=by
 simp only [lockL,List.mem_cons,List.not_mem_nil,or_false] at h;rcases h with rfl | rfl | rfl <;> decide +kernel
theorem proc_name {x : ByteArray} (h : x ∈ procL4) : isNameB x = true:=by
 simp only [procL4,List.mem_cons,List.not_mem_nil,or_false] at h;rcases h with rfl | rfl | rfl | rfl <;> decide +kernel
theorem TmG.ok {d : Nat} {t : Tm} (h : TmG d t) : ∀ m,d ≤ m → termOk m t = true:=by
 induction h with
 | num d n h1 h2 =>
  intro m _;have hl : leafOk (.mk 1 n ⟨#[]⟩ []) = true:=by simp [leafOk,Tm.kind,Tm.num,Tm.name,Tm.kids,h1,h2]
  cases m <;> simp [termOk,hl]
 | var d x h1 =>
  intro m _;have hl : leafOk (.mk 2 0 x []) = true:=by simp [leafOk,Tm.kind,Tm.num,Tm.name,Tm.kids,glob_name h1]
  cases m <;> simp [termOk,hl]
 | not d t h ih =>
  intro m hm;cases m with
  | zero=>omega
  | succ m =>
   have hn : nodeOk (.mk 8 0 ⟨#[]⟩ [t]) = true:=by simp [nodeOk,Tm.kind,Tm.num,Tm.name,Tm.kids]
   simp [termOk,hn,Tm.kids,ih m (by omega)]
 | two d k a b hk ha hb iha ihb =>
  intro m hm;cases m with
  | zero=>omega
  | succ m =>
   have hk2 : 3 ≤ k ∧ k ≤ 9 ∧ k ≠ 8:=by
    simp only [kindL,List.mem_cons,List.not_mem_nil,or_false] at hk;omega
   have hn : nodeOk (.mk k 0 ⟨#[]⟩ [a,b]) = true:=by
    simp [nodeOk,Tm.kind,Tm.num,Tm.name,Tm.kids,hk2]
   simp [termOk,hn,Tm.kids,iha m (by omega),ihb m (by omega)]
theorem TmG.b {d : Nat} {t : Tm} (h : TmG d t) : TmB 1048576 t:=by
 induction h with
 | num d n h1 h2=>exact .mk _ _ _ _ (by unfold Fits;omega) (by unfold Fits;omega) (by decide) (by simp) (fun i h=>by simp at h)
 | var d x h1 =>
  refine .mk _ _ _ _ (by unfold Fits;omega) (by unfold Fits;omega) ?_ (by simp) (fun i h=>by simp at h);simp only [globL,List.mem_cons,List.not_mem_nil,or_false] at h1;rcases h1 with rfl | rfl | rfl | rfl <;> decide
 | not d t h ih =>
  refine .mk _ _ _ _ (by unfold Fits;omega) (by unfold Fits;omega) (by decide) (by simp) (fun i h=>?_);obtain rfl : i = 0:=by simp at h;omega
  exact ih
 | two d k a b hk ha hb iha ihb =>
  have hk2 : 3 ≤ k ∧ k ≤ 9:=by
   simp only [kindL,List.mem_cons,List.not_mem_nil,or_false] at hk;omega
  refine .mk _ _ _ _ (by unfold Fits;omega) (by unfold Fits;omega) (by decide) (by simp) (fun i h=>?_);simp at h;obtain rfl | rfl : i = 0 ∨ i = 1:=by omega
  · exact iha
  · exact ihb
theorem addOnce_mem {acc : List ByteArray} {x n : ByteArray} (h : n ∈ addOnce acc x) : n ∈ acc ∨ n = x:=by
 unfold addOnce at h;split at h
 · exact .inl h
 · rw [List.mem_append,List.mem_singleton] at h;exact h
theorem TmG.reads {d : Nat} {t : Tm} (h : TmG d t) : ∀ (m : Nat) (acc : List ByteArray) (n : ByteArray),n ∈ readsF m t acc → n ∈ acc ∨ n ∈ globL:=by
 induction h with
 | num d n h1 h2 =>
  intro m acc n hn;cases m <;> exact .inl (by simpa [readsF,Tm.kind,Tm.kids] using hn)
 | var d x h1 =>
  intro m acc n hn;have : n ∈ addOnce acc x:=by cases m <;> simpa [readsF,Tm.kind,Tm.name] using hn
  rcases addOnce_mem this with h | rfl
  · exact .inl h
  · exact .inr h1
 | not d t h ih =>
  intro m acc n hn;cases m with
  | zero=>exact .inl (by simpa [readsF,Tm.kind] using hn)
  | succ m =>
   have : n ∈ readsF m t acc:=by simpa [readsF,Tm.kind,Tm.kids] using hn
   exact ih _ _ _ this
 | two d k a b hk ha hb iha ihb =>
  intro m acc n hn;have hk2 : k ≠ 2:=by
   simp only [kindL,List.mem_cons,List.not_mem_nil,or_false] at hk;omega
  cases m with
  | zero=>exact .inl (by simpa [readsF,Tm.kind,hk2] using hn)
  | succ m =>
   have : n ∈ readsF m b (readsF m a acc):=by simpa [readsF,Tm.kind,Tm.kids,hk2] using hn
   rcases ihb _ _ _ this with h | h
   · exact iha _ _ _ h
   · exact .inr h
theorem TmG.readsOf {d : Nat} {t : Tm} (h : TmG d t) {n : ByteArray} (hn : n ∈ Go.Proofs.Ytkgoajnnkimkaaa.readsOf t) : n ∈ globL:=by
 unfold Go.Proofs.Ytkgoajnnkimkaaa.readsOf at hn;split at hn
 ·
  rcases h.reads _ _ _ hn with h | h
  · simp at h
  · exact h
 · simp at hn
theorem TmG.mono {d : Nat} {t : Tm} (h : TmG d t) : ∀ m,d ≤ m → TmG m t:=by
 induction h with
 | num d n h1 h2=>intro m _;exact .num m n h1 h2
 | var d x h1=>intro m _;exact .var m x h1
 | not d t h ih =>
  intro m hm;obtain ⟨m',rfl⟩ : ∃ m',m = m' + 1:=⟨m - 1,by omega⟩
  exact .not m' t (ih _ (by omega))
 | two d k a b hk ha hb iha ihb =>
  intro m hm;obtain ⟨m',rfl⟩ : ∃ m',m = m' + 1:=⟨m - 1,by omega⟩
  exact .two m' k a b hk (iha _ (by omega)) (ihb _ (by omega))
mutual
def St.G (ps : List ByteArray) : Nat → St → Prop
 | _,.set x t=>x ∈ setL3 ∧ TmG 2 t
 | _,.word k x=>((k = 4 ∨ k = 5) ∧ x ∈ ps) ∨ ((k = 6 ∨ k = 7) ∧ x ∈ lockL)
 | _,.skip=>True
 | d,.loop t b=>0 < d ∧ TmG 2 t ∧ St.GL ps (d - 1) b
 | d,.cond t b e=>0 < d ∧ TmG 2 t ∧ St.GL ps (d - 1) b ∧ St.GL ps (d - 1) e
def St.GL (ps : List ByteArray) : Nat → List St → Prop
 | _,[]=>True
 | d,x :: r=>St.G ps d x ∧ St.GL ps d r
end
theorem GL_append {ps : List ByteArray} {d : Nat} {a b : List St} : St.GL ps d (a ++ b) ↔ St.GL ps d a ∧ St.GL ps d b:=by
 induction a with
 | nil=>simp [St.GL]
 | cons x r ih=>simp only [List.cons_append,St.GL,ih,and_assoc]
mutual
theorem G_mono {ps qs : List ByteArray} (h : ∀ x ∈ ps,x ∈ qs) : ∀ (x : St) (d e : Nat),d ≤ e → St.G ps d x → St.G qs e x
 | .set x t,d,e,hd,g=>by simpa [St.G] using g
 | .word k x,d,e,hd,g=>by
  simp only [St.G] at g ⊢;exact g.imp (fun g=>⟨g.1,h _ g.2⟩) id
 | .skip,d,e,hd,g=>by simp [St.G]
 | .loop t b,d,e,hd,g=>by
  simp only [St.G] at g ⊢;exact ⟨by omega,g.2.1,GL_mono h b _ _ (by omega) g.2.2⟩
 | .cond t b e',d,e,hd,g=>by
  simp only [St.G] at g ⊢;exact ⟨by omega,g.2.1,GL_mono h b _ _ (by omega) g.2.2.1,GL_mono h e' _ _ (by omega) g.2.2.2⟩
theorem GL_mono {ps qs : List ByteArray} (h : ∀ x ∈ ps,x ∈ qs) : ∀ (l : List St) (d e : Nat),d ≤ e → St.GL ps d l → St.GL qs e l
 | [],d,e,hd,g=>by simp [St.GL]
 | x :: r,d,e,hd,g=>by
  simp only [St.GL] at g ⊢;exact ⟨G_mono h x d e hd g.1,GL_mono h r d e hd g.2⟩
end
theorem loopD_good {ps : List ByteArray} {d : Nat} {f : Cr → St × Cr} (hf : ∀ s,St.G ps d (f s).1) : ∀ (m i : Nat) (s : Cr),St.GL ps d (loopD f m i s).1:=by
 intro m;induction m with
 | zero=>intro i s;simp [loopD,St.GL]
 | succ m ih =>
  intro i s;unfold loopD;split
  · exact ⟨hf _,ih _ _⟩
  · simp [St.GL]
theorem simpleD_good (d k : Nat) (s : Cr) : St.G callL3 d (simpleD k s).1:=by
 unfold simpleD;split
 · exact ⟨pickD_mem _ (by simp [setL3]),termD_good _ _⟩
 ·
  split
  · exact .inr ⟨.inl rfl,pickD_mem _ (by simp [lockL])⟩
  ·
   split
   · exact .inr ⟨.inr rfl,pickD_mem _ (by simp [lockL])⟩
   ·
    split
    · exact .inl ⟨.inl rfl,pickD_mem _ (by simp [callL3])⟩
    ·
     split
     · exact .inl ⟨.inr rfl,pickD_mem _ (by simp [callL3])⟩
     · simp [St.G]
theorem loopG {d : Nat} (h : ∀ s,St.G callL3 d (stmtD d s).1) (s : Cr) : St.GL callL3 d (loopD (stmtD d) 4 0 s).1:=loopD_good h 4 0 s
theorem stmtD_good : ∀ (d : Nat) (s : Cr),St.G callL3 d (stmtD d s).1:=by
 intro d;induction d with
 | zero=>intro s;exact simpleD_good 0 _ _
 | succ d ih =>
  intro s;have e : d + 1 - 1 = d:=by omega
  have ih2:=loopG ih;have ht:=fun s=>(termD_good 1 s).mono 2 (Nat.le_succ 1);have hp : 0 < d + 1:=Nat.succ_pos _;unfold stmtD;simp only;generalize belowD 14 s = k;generalize hl : loopD (stmtD d) 4 0 = L at ih2;split
  · exact simpleD_good _ _ _
  ·
   generalize htt : termD 1 = T at ht ⊢;split
   · simp only [St.G,e];exact ⟨hp,ht _,ih2 _⟩
   ·
    generalize belowD 2 = o;split
    · simp only [St.G,e];exact ⟨hp,ht _,ih2 _,ih2 _⟩
    · simp only [St.G,e];exact ⟨hp,ht _,ih2 _,by simp only [St.GL]⟩
theorem listD_good (d : Nat) (s : Cr) : St.GL callL3 d (listD d s).1:=loopD_good (stmtD_good d) _ _ _
theorem loopD_len (f : Cr → St × Cr) : ∀ (m i : Nat) (s : Cr),(loopD f m i s).1.length ≤ m:=by
 intro m;induction m with
 | zero=>intro i s;simp [loopD]
 | succ m ih =>
  intro i s;unfold loopD;split
  · simp only [List.length_cons];have:=ih (i + 1) (f (belowD 4 s).2).2;omega
  · simp
theorem cntL_app (a b : List St) : St.cntL (a ++ b) = St.cntL a + St.cntL b:=by
 induction a with
 | nil=>simp [St.cntL]
 | cons x r ih=>simp only [List.cons_append,St.cntL,ih];omega
theorem cnt_pos (x : St) : 1 ≤ St.cnt x:=by cases x <;> simp only [St.cnt] <;> omega
theorem cntL_len (l : List St) : l.length ≤ St.cntL l:=by
 induction l with
 | nil=>simp
 | cons x r ih =>
  have:=cnt_pos x;simp only [List.length_cons,St.cntL];omega
mutual
theorem fixS_good {qs ps : List ByteArray} (hp : ps ≠ []) : ∀ (x : St) (d : Nat) (s : Cr),St.G qs d x → St.G ps d (fixS ps x s).1 ∧ St.cnt (fixS ps x s).1 = St.cnt x
 | .set x t,d,s,g=>by simpa [fixS,St.G,St.cnt] using g
 | .word k x,d,s,g=>by
  simp only [St.G] at g;unfold fixS;split
  · rename_i h;exact ⟨.inl ⟨h,pickD_mem s hp⟩,by simp [St.cnt]⟩
  ·
   rename_i h;rcases g with g | g
   · exact absurd g.1 h
   · exact ⟨.inr g,by simp [St.cnt]⟩
 | .skip,d,s,g=>by simp [fixS,St.G,St.cnt]
 | .loop t b,d,s,g=>by
  simp only [St.G] at g;have hb:=fixL_good hp b (d - 1) s g.2.2;simp only [fixS,St.G,St.cnt];exact ⟨⟨g.1,g.2.1,hb.1⟩,by omega⟩
 | .cond t b e,d,s,g=>by
  simp only [St.G] at g;have hb:=fixL_good hp b (d - 1) s g.2.2.1;have he:=fixL_good hp e (d - 1) (fixL ps b s).2 g.2.2.2;simp only [fixS,St.G,St.cnt];exact ⟨⟨g.1,g.2.1,hb.1,he.1⟩,by omega⟩
theorem fixL_good {qs ps : List ByteArray} (hp : ps ≠ []) : ∀ (l : List St) (d : Nat) (s : Cr),St.GL qs d l → St.GL ps d (fixL ps l s).1 ∧ St.cntL (fixL ps l s).1 = St.cntL l
 | [],d,s,g=>by simp [fixL,St.GL,St.cntL]
 | x :: r,d,s,g=>by
  simp only [St.GL] at g;have h1:=fixS_good hp x d s g.1;have h2:=fixL_good hp r d (fixS ps x s).2 g.2;simp only [fixL,St.GL,St.cntL];exact ⟨⟨h1.1,h2.1⟩,by omega⟩
end
theorem lockG {d : Nat} {ps : List ByteArray} (s : Cr) : St.G ps d (.word 6 (pickD lockL s).1) ∧ St.G ps d (.word 7 (pickD lockL s).1) :=
 have h:=pickD_mem s (xs:=lockL) (by simp [lockL])
 ⟨.inr ⟨.inl rfl,h⟩,.inr ⟨.inr rfl,h⟩⟩
theorem guardD_good {ps : List ByteArray} {d : Nat} {body : List St} (s : Cr) (h : St.GL ps d body) : St.GL ps d (guardD body s).1 ∧ St.cntL (guardD body s).1 ≤ St.cntL body + 3:=by
 have h1:=lockG (d:=d) (ps:=ps) s;have h2:=lockG (d:=d) (ps:=ps) (pickD lockL s).2;have hz : St.GL ps d []:=by simp [St.GL]
 unfold guardD;simp only;split
 · exact ⟨⟨h1.1,GL_append.2 ⟨h,h1.2,hz⟩⟩,by simp [St.cntL,St.cnt,cntL_app];omega⟩
 ·
  split
  · exact ⟨⟨h1.1,h2.1,GL_append.2 ⟨h,h1.2,hz⟩⟩,by simp [St.cntL,St.cnt,cntL_app];omega⟩
  · exact ⟨⟨h1.1,GL_append.2 ⟨h,h1.2,hz⟩⟩,by simp [St.cntL,St.cnt,cntL_app];omega⟩
theorem cutD_good {ps : List ByteArray} {body : List St} (h : St.GL ps 2 body) : St.GL ps 2 (cutD body) ∧ St.cntL (cutD body) ≤ 50:=by
 unfold cutD;split
 · exact ⟨by simp [St.GL,St.G],by simp [St.cntL,St.cnt]⟩
 · exact ⟨h,by omega⟩
theorem onceGuardD_good {ps : List ByteArray} {body : List St} (s : Cr) (h : St.GL ps 2 body) : St.GL ps 2 (onceGuardD body s).1 ∧ St.cntL (onceGuardD body s).1 ≤ St.cntL body + 3:=by
 unfold onceGuardD;split
 · exact guardD_good _ h
 · exact ⟨h,Nat.le_add_right _ _⟩
theorem headD_good {ps qs : List ByteArray} {body : List St} (hp : 2 ≤ ps.length) (i : Nat) (s : Cr) (h : St.GL qs 2 body) : St.GL (ps ++ qs) 2 (headD ps i body s).1 ∧ St.cntL (headD ps i body s).1 ≤ St.cntL body + 1:=by
 have h6:=GL_mono (qs:=ps ++ qs) (fun x h=>List.mem_append.2 (.inr h)) body 2 2 (Nat.le_refl _) h;have hm : (ps[1]?).getD ⟨#[]⟩ ∈ ps:=by
  rw [List.getElem?_eq_getElem (by omega)];exact List.getElem_mem _
 unfold headD;split
 ·
  split
  · simp only [St.GL,St.G,St.cntL,St.cnt];exact ⟨⟨.inl ⟨.inr trivial,List.mem_append.2 (.inl hm)⟩,h6⟩,by rw [Nat.add_comm];exact Nat.le_refl _⟩
  · exact ⟨h6,Nat.le_add_right _ _⟩
 · exact ⟨h6,Nat.le_add_right _ _⟩
theorem procD_eq (ps : List ByteArray) (i : Nat) (s : Cr) : procD ps i s = fixL (ps.drop 1)
  (headD ps i (onceGuardD (cutD ((listD 2 s).1 ++ (listD 1 (listD 2 s).2).1)) (listD 1 (listD 2 s).2).2).1 (onceGuardD (cutD ((listD 2 s).1 ++ (listD 1 (listD 2 s).2).1)) (listD 1 (listD 2 s).2).2).2).1
  (headD ps i (onceGuardD (cutD ((listD 2 s).1 ++ (listD 1 (listD 2 s).2).1)) (listD 1 (listD 2 s).2).2).1 (onceGuardD (cutD ((listD 2 s).1 ++ (listD 1 (listD 2 s).2).1)) (listD 1 (listD 2 s).2).2).2).2:=rfl
theorem procD_good {ps : List ByteArray} (hp : 2 ≤ ps.length) (i : Nat) (s : Cr) : St.GL ps 2 (procD ps i s).1 ∧ St.cntL (procD ps i s).1 ≤ 54:=by
 have hd : ps.drop 1 ≠ []:=by
  intro h;have:=congrArg List.length h;simp at this;omega
 have h1:=listD_good 2 s;have h2:=GL_mono (fun _ h=>h) (listD 1 (listD 2 s).2).1 1 2 (by decide) (listD_good 1 (listD 2 s).2);have h3:=cutD_good (GL_append.2 ⟨h1,h2⟩);rw [procD_eq];generalize (listD 1 (listD 2 s).2).2 = s1;generalize cutD ((listD 2 s).1 ++ (listD 1 (listD 2 s).2).1) = body at h3 ⊢;clear h1 h2;have h4:=onceGuardD_good s1 h3.1;generalize onceGuardD body s1 = g at h4 ⊢;have h5:=headD_good hp i g.2 h4.1;generalize headD ps i g.1 g.2 = h at h5 ⊢;have h7:=fixL_good hd h.1 2 h.2 h5.1;generalize fixL (ps.drop 1) h.1 h.2 = q at h7 ⊢;exact ⟨GL_mono (fun x h=>List.mem_of_mem_drop h) _ 2 2 (Nat.le_refl _) h7.1,by omega⟩
theorem procsD_good {ps : List ByteArray} (hp : 2 ≤ ps.length) (s : Cr) : ∀ i,(procsD ps i s).1.length = i ∧ ∀ b ∈ (procsD ps i s).1,St.GL ps 2 b ∧ St.cntL b ≤ 54:=by
 intro i;induction i with
 | zero=>simp [procsD]
 | succ i ih =>
  unfold procsD;refine ⟨by simp [ih.1],fun b hb=>?_⟩;rw [List.mem_append,List.mem_singleton] at hb;rcases hb with hb | rfl
  · exact ih.2 b hb
  · exact procD_good hp i _
theorem namesD_cases (s : Cr) : (namesD s).length = 2 + (belowD 3 s).1 ∧ (belowD 3 s).1 < 3 ∧
  (namesD s = [⟨#[109,97,105,110]⟩,⟨#[112]⟩] ∨ namesD s = [⟨#[109,97,105,110]⟩,⟨#[112]⟩,⟨#[113]⟩] ∨ namesD s = procL4):=by
 have h:=belowD_lt (n:=3) s (by omega);unfold namesD;generalize (belowD 3 s).1 = m at h ⊢;obtain rfl | rfl | rfl : m = 0 ∨ m = 1 ∨ m = 2:=by omega
 · exact ⟨rfl,by omega,.inl rfl⟩
 · exact ⟨rfl,by omega,.inr (.inl rfl)⟩
 · exact ⟨rfl,by omega,.inr (.inr rfl)⟩
theorem bodiesD_good (s : Cr) : (bodiesD s).length = (namesD s).length ∧ ∀ b ∈ bodiesD s,St.GL (namesD s) 2 b ∧ St.cntL b ≤ 54:=by
 obtain ⟨h1,h2,_⟩:=namesD_cases s;exact procsD_good (by omega) _ _
end Go.Proofs.Ytkgoajnnkimkaaa
