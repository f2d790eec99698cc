/- Laws of code that grows: one behind another, and a place set later; what a statement becomes. -/
import Derived.Test.YtkgoajnnkimkaaaH20
set_option linter.unusedSimpArgs false
set_option linter.unusedVariables false
set_option maxRecDepth 100000
set_option maxHeartbeats 16000000
namespace Go.Proofs.Ytkgoajnnkimkaaa
open Go.ChangeShapes Go.WideShapes Go.ChangeAt Go.RowKit
section
variable {W W' W0 : World} {ge base gr gr1 : Nat} {P : PA} {xs ys : List Is} {A : Option Addr} {c : Nat} {css : List (List Value)}
theorem EmNew.trans (hgr : gr1 = gr ∨ W.heap.size ≤ gr1) (hF : Fr (fun b=>b = ge ∨ b = gr) W W') (k : EmNew W' ge base gr1 P ys W0) : EmNew W ge base gr P ys W0:=by
 obtain ⟨gr2,A2,c2,css2,h1,h2,h3⟩:=k;have hs:=hF.size;exact ⟨gr2,A2,c2,css2,by omega,h2,hF.past h3 (fun b hb e=>by rcases e with e | e;exact .inl e;exact .inr (by omega))⟩
theorem EmNew.below (hb : Below W.heap.size W W') (k : EmNew W' ge base gr P ys W0) : EmNew W ge base gr P ys W0:=by
 obtain ⟨gr2,A2,c2,css2,h1,h2,h3⟩:=k;have hs:=hb.size;exact ⟨gr2,A2,c2,css2,by omega,h2,(Fr.of_below hb).trans h3⟩
theorem EmNew.same (h : Em W ge base gr P xs A c css) : EmNew W ge base gr P xs W:=⟨gr,A,c,css,.inl rfl,h,Fr.refl _ _⟩
theorem Em.low0 {w0 : World} (h : Em W ge base gr P xs A c css) (hF : Fr (fun b=>b = ge ∨ b = gr) W W') (hb : Below w0.heap.size w0 W) (hg : w0.heap.size ≤ ge) : Below w0.heap.size w0 W':=by
 have h1:=h.grl;have h2:=h.low;exact ⟨hF.os.trans hb.os,hF.tape.trans hb.tape,hF.output.trans hb.output,Nat.le_trans hb.size hF.size,fun b hlt=>(hF.block b (Nat.lt_of_lt_of_le hlt hb.size) (by omega)).trans (hb.block b hlt)⟩
theorem flat_set' {m : Nat} : ∀ (css : List (List Value)),(∀ cs ∈ css,cs.length = m) → ∀ (i j : Nat) (hi : i < css.length) (v : Value),j < m → css.flatten.set (i * m + j) v = (css.set i (css[i].set j v)).flatten
 | [],h,i,j,hi,v,hj=>by simp at hi
 | c :: r,h,i,j,hi,v,hj=>by
  have hc:=h c (by simp);cases i with
  | zero =>
   simp only [List.flatten_cons,Nat.zero_mul,Nat.zero_add,List.getElem_cons_zero,List.set_cons_zero];rw [List.set_append_left _ _ (by omega)]
  | succ i =>
   simp only [List.flatten_cons,List.getElem_cons_succ,List.set_cons_succ];have e1 : (i + 1) * m = i * m + m:=Nat.succ_mul i m;rw [List.set_append_right _ _ (by omega)];have e : (i + 1) * m + j - c.length = i * m + j:=by omega
   rw [e,flat_set' r (fun x hx=>h x (by simp [hx])) i j (by simpa using hi) v hj]
theorem Em.seven (h : Em W ge base gr P xs A c css) : ∀ cs ∈ css,cs.length = 7:=fun cs hc=>by
 obtain ⟨i,hi,rfl⟩:=List.getElem_of_mem hc;obtain ⟨Ak,ck,e,_⟩:=h.row i hi (by rw [← h.len];exact hi);rw [e];rfl
theorem Em.setTo (h : Em W ge base gr P xs A c css) {i : Nat} (hi : i < xs.length) (n : Int) : ∃ g, A = some ⟨g, 0, none⟩ ∧ (∃ u, W.cell? ⟨g, i * 7 + 6, none⟩ = some u) ∧ W.frozen? ⟨g, i * 7 + 6, none⟩ = false ∧
  EmNew W ge base gr P (xs.set i ⟨xs[i].op,xs[i].arg,xs[i].term,n⟩) (W.setCell ⟨g,i * 7 + 6,none⟩ (.int .i64 n)):=by
 obtain ⟨g,rfl,hg1,hg2⟩:=own_someH h.own (by omega);have hl:=h.low;have hc : i < css.length:=by rw [h.len];exact hi
 have hgr:=h.grb g rfl;subst hgr;have h7:=h.seven;obtain ⟨s1,s2⟩:=h.own.stored (i * 7 + 6) (.int .i64 n);rw [flat_set' css h7 i 6 hc _ (by omega)] at s1;have hF : Fr (fun b=>b = g) W (W.setCell ⟨g,i * 7 + 6,none⟩ (.int .i64 n)):=Fr.set (S:=fun b=>b = g) (Fr.refl _ W) (a:=⟨g,i * 7 + 6,none⟩) (fun _=>rfl) _;have hsz : (W.setCell ⟨g,i * 7 + 6,none⟩ (.int .i64 n)).heap.size = W.heap.size:=World.size_setCell ..;have hfl : css.flatten.length = xs.length * 7:=h.own.1;refine ⟨g,rfl,⟨css.flatten[i * 7 + 6]'(by omega),?_⟩,h.own.frozenAt _,⟨g,some ⟨g,0,none⟩,c,css.set i (css[i].set 6 (.int .i64 n)),.inl rfl,⟨?_,?_,fun b e=>by injection e with e;exact e.symm,.inr ⟨hg1,by omega⟩,hl,by have:=h.high;omega,by simp [h.len],fun k h1 h2=>?_,fun b hb=>by have:=h.xlt b hb;omega,h.xgr⟩,hF.mono (fun b _ e=>.inr e)⟩⟩
 ·
  obtain ⟨ad,ea,_,hcell⟩:=own_rd h.own (i * 7 + 6) (css.flatten[i * 7 + 6]'(by omega)) (by simp);injection ea with ea;subst ea
  rwa [add_mk] at hcell
 · rw [List.length_set];exact (hF.block ge (by have:=h.high;omega) (by omega)).trans h.box
 · rw [List.length_set];exact s1
 ·
  have hk1 : k < css.length:=by simpa using h1
  have hk2 : k < xs.length:=by simpa using h2
  obtain ⟨Ak,ck,e,hk⟩:=h.row k hk1 hk2;have hkeep:=hk.sub (Nat.le_of_eq hsz.symm) (he_fr (gr':=g) (P':=P) hF (fun b q1 q2 q3 e=>q2 (.inl e)) (fun b _ q=>q));by_cases hik : i = k
  ·
   subst hik;refine ⟨Ak,ck,?_,?_⟩
   · rw [List.getElem_set_self,List.getElem_set_self,e];rfl
   · rw [List.getElem_set_self];exact hkeep
  ·
   refine ⟨Ak,ck,?_,?_⟩
   · rw [List.getElem_set_ne hik,List.getElem_set_ne hik];exact e
   · rw [List.getElem_set_ne hik];exact hkeep
end
theorem emitL_snoc (ps : List ByteArray) : ∀ (l : List St) (x : St) (a : Nat),emitL ps a (l ++ [x]) = emitL ps a l ++ emitS ps (a + (emitL ps a l).length) x
 | [],x,a=>by simp [emitL]
 | y :: r,x,a=>by
  simp only [List.cons_append,emitL,List.length_append,emitL_snoc ps r x (a + (emitS ps a y).length),List.append_assoc];rw [show a + ((emitS ps a y).length + (emitL ps (a + (emitS ps a y).length) r).length) = a + (emitS ps a y).length + (emitL ps (a + (emitS ps a y).length) r).length by omega]
theorem emitL_take {ps : List ByteArray} {ss : List St} {j : Nat} (h : j < ss.length) (a : Nat) : emitL ps a (ss.take (j + 1)) = emitL ps a (ss.take j) ++ emitS ps (a + (emitL ps a (ss.take j)).length) ss[j]:=by
 rw [List.take_succ_eq_append_getElem h,emitL_snoc]
theorem emit_kind {ps : List ByteArray} {d : Nat} {x : St} (g : St.G ps d x) (a : Nat) :
  (x.kind = 1 → emitS ps a x = [⟨1,placeOf globL x.name,x.term,0⟩]) ∧
  (x.kind = 4 → emitS ps a x = [⟨4,placeOf ps x.name,zeroT,0⟩]) ∧ (x.kind = 5 → emitS ps a x = [⟨5,placeOf ps x.name,zeroT,0⟩]) ∧
  (x.kind = 6 → emitS ps a x = [⟨6,placeOf lockL x.name,zeroT,0⟩]) ∧ (x.kind = 7 → emitS ps a x = [⟨7,placeOf lockL x.name,zeroT,0⟩]) ∧
  (x.kind = 8 → emitS ps a x = [⟨8,0,zeroT,0⟩]) ∧
  (x.kind = 3 → emitS ps a x = ⟨2,0,x.term,((a + 1 + (emitL ps (a + 1) x.body).length + 1 : Nat) : Int)⟩ :: emitL ps (a + 1) x.body ++ [⟨3,0,zeroT,(a : Nat)⟩]) ∧
  (x.kind = 2 → x.els.length = 0 → emitS ps a x = ⟨2,0,x.term,((a + 1 + (emitL ps (a + 1) x.body).length : Nat) : Int)⟩ :: emitL ps (a + 1) x.body) ∧
  (x.kind = 2 → ¬ x.els.length = 0 → emitS ps a x = ⟨2,0,x.term,((a + 1 + (emitL ps (a + 1) x.body).length + 1 : Nat) : Int)⟩ :: emitL ps (a + 1) x.body ++
   ⟨3,0,zeroT,((a + 1 + (emitL ps (a + 1) x.body).length + 1 + (emitL ps (a + 1 + (emitL ps (a + 1) x.body).length + 1) x.els).length : Nat) : Int)⟩ :: emitL ps (a + 1 + (emitL ps (a + 1) x.body).length + 1) x.els):=by
 cases x with
 | set x t=>simp [St.kind,emitS,St.name,St.term]
 | word k x =>
  simp only [St.G] at g;have hk : k = 4 ∨ k = 5 ∨ k = 6 ∨ k = 7:=by omega
  rcases hk with rfl | rfl | rfl | rfl <;> simp [St.kind,emitS,St.name]
 | skip=>simp [St.kind,emitS]
 | loop t b=>simp [St.kind,emitS,St.term,St.body]
 | cond t b e =>
  simp only [St.kind,St.term,St.body,St.els,emitS];refine ⟨by simp,by simp,by simp,by simp,by simp,by simp,by simp,fun _ h=>?_,fun _ h=>?_⟩
  · rw [if_pos h]
  · rw [if_neg h]
theorem cntL_takeS : ∀ (ss : List St) (j : Nat) (h : j < ss.length),St.cntL (ss.take j) + St.cnt ss[j] ≤ St.cntL ss
 | [],j,h=>by simp at h
 | x :: r,0,h=>by simp [St.cntL]
 | x :: r,j + 1,h=>by
  have:=cntL_takeS r j (by simpa using h);simp only [List.take_succ_cons,St.cntL,List.getElem_cons_succ];omega
theorem set_mid {α : Type} (xs : List α) (y y' : α) (zs : List α) : (xs ++ y :: zs).set xs.length y' = xs ++ y' :: zs:=by
 rw [List.set_append_right _ _ (Nat.le_refl _),Nat.sub_self];rfl
theorem get_mid {α : Type} (xs : List α) (y : α) (zs : List α) : (xs ++ y :: zs)[xs.length]'(by simp) = y:=by simp
end Go.Proofs.Ytkgoajnnkimkaaa
