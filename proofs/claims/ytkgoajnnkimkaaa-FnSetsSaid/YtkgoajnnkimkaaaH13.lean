/- How drawn procedures lie in memory; an append as one operation. -/
import Derived.Test.YtkgoajnnkimkaaaH10
set_option linter.unusedSimpArgs false
set_option linter.unusedVariables false
set_option maxRecDepth 100000
set_option maxHeartbeats 16000000
namespace Go.Proofs.Ytkgoajnnkimkaaa
open Go.ChangeShapes Go.WideShapes Go.ChangeAt Go.RowKit
theorem info_proc : (Try.prog.info? 100).map (fun i=>(i.zero,i.size,i.bytes)) = some (some (.agg #[.string ⟨#[]⟩,.slice none 0 0]),2,40):=by kernel_rfl
def PrsIn (w : World) (g : Nat) : Nat → Nat → List (ByteArray × List St) → List (List Value) → Prop
 | lo,hi,[],css=>css = [] ∧ lo ≤ hi
 | lo,hi,x :: r,css=>∃ v cr m n,css = [.string x.1,v] :: cr ∧ lo ≤ m ∧ m ≤ n ∧ (g < m ∨ n ≤ g) ∧ StsIn w m n x.2 v ∧ PrsIn w g n hi r cr
theorem PrsIn.le {w : World} : ∀ (l : List (ByteArray × List St)) (g lo hi : Nat) (css : List (List Value)),PrsIn w g lo hi l css → lo ≤ hi
 | [],g,lo,hi,css,h=>h.2
 | x :: r,g,lo,hi,css,h=>by
  obtain ⟨v,cr,m,n,h1,h2,h3,h4,h5,h6⟩:=h;have:=PrsIn.le r g n hi cr h6;omega
theorem PrsIn.fr {S : Nat → Prop} {w w' : World} (hf : Fr S w w') : ∀ (l : List (ByteArray × List St)) (g lo hi : Nat) (css : List (List Value)),PrsIn w g lo hi l css → (∀ b,lo ≤ b → b < hi → b ≠ g → ¬ S b) → hi ≤ w.heap.size → PrsIn w' g lo hi l css
 | [],g,lo,hi,css,h,hS,hh=>h
 | x :: r,g,lo,hi,css,h,hS,hh=>by
  obtain ⟨v,cr,m,n,h1,h2,h3,h4,h5,h6⟩:=h;have hn:=PrsIn.le r g n hi cr h6;exact ⟨v,cr,m,n,h1,h2,h3,h4,h5.fr hf (fun b q1 q2=>hS b (by omega) (by omega) (by omega)) (by omega),PrsIn.fr hf r g n hi cr h6 (fun b q1 q2 q3=>hS b (by omega) q2 q3) hh⟩
theorem PrsIn.mono {w : World} : ∀ (l : List (ByteArray × List St)) (g lo hi lo' hi' : Nat) (css : List (List Value)),PrsIn w g lo hi l css → lo' ≤ lo → hi ≤ hi' → PrsIn w g lo' hi' l css
 | [],g,lo,hi,lo',hi',css,h,h1,h2=>⟨h.1,by have:=h.2;omega⟩
 | x :: r,g,lo,hi,lo',hi',css,h,h1,h2=>by
  obtain ⟨v,cr,m,n,q1,q2,q3,q4,q5,q6⟩:=h;exact ⟨v,cr,m,n,q1,by omega,q3,q4,q5,PrsIn.mono r g n hi n hi' cr q6 (Nat.le_refl _) h2⟩
theorem PrsIn.high {w : World} : ∀ (l : List (ByteArray × List St)) (g g' lo hi : Nat) (css : List (List Value)),PrsIn w g lo hi l css → hi ≤ g' → PrsIn w g' lo hi l css
 | [],g,g',lo,hi,css,h,h1=>h
 | x :: r,g,g',lo,hi,css,h,h1=>by
  obtain ⟨v,cr,m,n,q1,q2,q3,q4,q5,q6⟩:=h;have:=PrsIn.le r g n hi cr q6;exact ⟨v,cr,m,n,q1,q2,q3,.inr (by omega),q5,PrsIn.high r g g' n hi cr q6 h1⟩
theorem PrsIn.snoc {w : World} {x : ByteArray × List St} {v : Value} {m n g : Nat} (hx : StsIn w m n x.2 v) (hmn : m ≤ n) (hg : g < m ∨ n ≤ g) : ∀ (l : List (ByteArray × List St)) (lo hi hi' : Nat) (css : List (List Value)),PrsIn w g lo hi l css → hi ≤ m → n ≤ hi' → PrsIn w g lo hi' (l ++ [x]) (css ++ [[.string x.1,v]])
 | [],lo,hi,hi',css,h,h1,h2=>by
  rw [h.1];exact ⟨v,[],m,n,rfl,by have:=h.2;omega,hmn,hg,hx,rfl,h2⟩
 | y :: r,lo,hi,hi',css,h,h1,h2=>by
  obtain ⟨u,cr,a,b,q1,q2,q3,q4,q5,q6⟩:=h;subst q1;exact ⟨u,cr ++ [[.string x.1,v]],a,b,rfl,q2,q3,q4,q5,PrsIn.snoc hx hmn hg r b hi hi' cr q6 h1 h2⟩
theorem prs_get {w : World} : ∀ (l : List (ByteArray × List St)) (g lo hi : Nat) (css : List (List Value)),PrsIn w g lo hi l css → ∀ i (h : i < l.length),∃ v m n,css.flatten[i * 2]? = some (.string l[i].1) ∧ css.flatten[i * 2 + 1]? = some v ∧ lo ≤ m ∧ m ≤ n ∧ n ≤ hi ∧ StsIn w m n l[i].2 v
 | [],g,lo,hi,css,h=>by intro i hi';simp at hi'
 | x :: r,g,lo,hi,css,h=>by
  obtain ⟨v,cr,m,n,rfl,q2,q3,q4,q5,q6⟩:=h;have hle:=PrsIn.le r g n hi cr q6;intro i hi';cases i with
  | zero=>exact ⟨v,m,n,rfl,rfl,q2,q3,hle,q5⟩
  | succ i =>
   obtain ⟨v',m',n',p1,p2,p3,p4,p5,p6⟩:=prs_get r g n hi cr q6 i (by simpa using hi');have e1 : (i + 1) * 2 = i * 2 + 1 + 1:=by omega
   refine ⟨v',m',n',?_,?_,by omega,p4,p5,p6⟩
   · rw [e1];exact p1
   · rw [e1];exact p2
theorem drop_rd {w : World} {B b n : Nat} {xs : List Value} (h : Rd w B (some ⟨b,0,none⟩) xs) : Rd w B (some ⟨b,n,none⟩) (xs.drop n):=fun j u hu=>by
 rw [List.getElem?_drop] at hu;obtain ⟨ad,e,hb,hc⟩:=h (n + j) u hu;injection e with e;subst e;refine ⟨⟨b,n,none⟩,rfl,hb,?_⟩;rw [← hc];congr 1
 rw [add_mk];unfold Addr.add;split
 · rename_i h0;subst h0;rfl
 · rfl
theorem take_rd {w : World} {B n : Nat} {A : Option Addr} {xs : List Value} (h : Rd w B A xs) : Rd w B A (xs.take n):=fun j u hu=>by
 rw [List.getElem?_take] at hu;split at hu
 · exact h j u hu
 · simp at hu
structure ProgAt (w : World) (gA lA pA : Option Addr) (nm : List ByteArray) (bs : List (List St)) : Prop where
 g : Rd w w.heap.size gA (globL.map sv)
 l : Rd w w.heap.size lA (lockL.map sv)
 len : nm.length = bs.length
 p : ∀ i (h : i < nm.length) (h' : i < bs.length),∃ ad bv m n,pA = some ad ∧ ad.block < w.heap.size ∧ w.cell? (ad.add (i * 2)) = some (.string nm[i]) ∧ w.cell? (ad.add (i * 2 + 1)) = some bv ∧ m ≤ n ∧ n ≤ w.heap.size ∧ StsIn w m n bs[i] bv
theorem ProgAt.below {w w' : World} {gA lA pA : Option Addr} {nm : List ByteArray} {bs : List (List St)} (h : ProgAt w gA lA pA nm bs) (hb : Below w.heap.size w w') : ProgAt w' gA lA pA nm bs:=by
 have hs:=hb.size;refine ⟨(h.g.below hb).mono hs,(h.l.below hb).mono hs,h.len,fun i h1 h2=>?_⟩;obtain ⟨ad,bv,m,n,q1,q2,q3,q4,q5,q6,q7⟩:=h.p i h1 h2;exact ⟨ad,bv,m,n,q1,by omega,cell_below hb q3,cell_below hb q4,q5,by omega,q7.fr (S:=fun _=>False) (Fr.of_below hb) (fun _ _ _ h=>h) q6⟩
def ProgDrawn (w : World) (g : Nat) (s : Cr) (e : Ending) (w' : World) : Prop :=
 ∃ gA lA pA pc,e = .returned (.agg #[.slice gA 4 4,.slice lA 3 3,.slice pA (namesD s).length pc]) ∧ ProgAt w' gA lA pA (namesD s) (bodiesD s) ∧ Fr (· = g) w w'
theorem procsD_len (ps : List ByteArray) : ∀ (n : Nat) (s : Cr),(procsD ps n s).1.length = n
 | 0,s=>rfl
 | n + 1,s=>by simp [procsD,procsD_len ps n s]
theorem zip_snoc {α β : Type} {xs : List α} {ys : List β} {j : Nat} (hj : j < xs.length) (hl : ys.length = j) (y : β) : (xs.take (j + 1)).zip (ys ++ [y]) = (xs.take j).zip ys ++ [(xs[j],y)]:=by
 rw [List.take_succ_eq_append_getElem hj,List.zip_append (by rw [List.length_take];omega)];rfl
theorem append_cells_op {P : Program} {o : Oper} {a : Act} {K : Act → World → Prop} {Q : Exit → Act → World → Prop} {t e : TypeId} {z : Value} {size bytes : Nat} (ht : P.underlying t = some (.slice e)) (hinfo : (P.info? e).map (fun i => (i.zero, i.size, i.bytes)) = some (some z, size, bytes))
  (hzs : z.cells.size = size) (hsz : 0 < size) (hby : bytes ≤ 128) {wr : World} (s x : Operand)
  (ho : o.op = .call { callee:=.builtin .append,args:=#[s,x],argTypes:=#[t,t] })
  {base : Nat} {v : Value} {n : Nat} {xs : List Value} (us : List Value) (hown : wr.ownsRow base e size v n xs) (hs : a.eval s = v) (hx : a.eval x = .slice (some ⟨wr.heap.size,0,none⟩) 1 1)
  (hus : us.length = size) (h1 : ∀ u ∈ us,u.oneCell' = true) (hn : n ≤ 1099511627775) (hbase : base ≤ wr.heap.size)
  (hK : ∀ A c w',w'.ownsRow base e size (.slice A (n + 1) c) (n + 1) (xs ++ us) → wr.grownBy w' v.ownBlock → ((Value.slice A (n + 1) c).ownBlock = v.ownBlock ∨ (Value.slice A (n + 1) c).ownBlock = some (wr.heap.size + 1)) →
   K (a.put o.dst (.slice A (n + 1) c)) w') : Oper.wp P o a (wr.alloc (.cells us.toArray e)) K Q:=by
 obtain ⟨i0,hi,hz0,hz1,hz2⟩:=info_parts hinfo;have hcells : ∀ j u,us[j]? = some u → (wr.alloc (.cells us.toArray e)).cell? ((⟨wr.heap.size,0,none⟩ : Addr).add j) = some u:=by
  intro j u hu;rw [add_mk,cell_of_row _ _ _ _ _ _ (heap_alloc_new wr _)];simpa using hu
 obtain ⟨v',w',hr,h2,h3,_,h4⟩:=run_append_own_at (P:=P) (wr.alloc (.cells us.toArray e)) base t o.type e i0 z size bytes ht hi hz0 hz1 hz2 hzs hsz v n xs (hown.alloc _) ⟨wr.heap.size,0,none⟩ 1 1 us
  (by omega) hcells h1 (by unfold maxLen;omega) (Nat.le_trans (Nat.mul_le_mul_left _ hby) (by omega)) (by simp;omega)
 obtain ⟨A,c,rfl⟩:=own_form h2;have hgr : wr.grownBy w' v.ownBlock:=(World.grownBy_alloc wr _ _).trans h3;unfold Oper.wp execOp;simp only [ho,resolve,invoke,builtin,Sem.run_bind,Sem.run_pure,Result.andThen_ok,List.map_toArray,List.map_cons,List.map_nil,hs,hx,hr];exact hK _ _ _ h2 hgr (by simpa using h4)
end Go.Proofs.Ytkgoajnnkimkaaa
