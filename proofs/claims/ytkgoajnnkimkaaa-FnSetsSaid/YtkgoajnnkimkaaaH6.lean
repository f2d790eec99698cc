/- How drawn statements lie in memory: each list has a block of its own; what hangs on a statement lies in an interval of blocks. -/
import Derived.Test.YtkgoajnnkimkaaaH5
set_option linter.unusedSimpArgs false
set_option linter.unusedVariables false
set_option maxRecDepth 100000
set_option maxHeartbeats 16000000
namespace Go.Proofs.Ytkgoajnnkimkaaa
open Go.ChangeShapes Go.WideShapes Go.ChangeAt Go.RowKit
def nilV : Value:=.slice none 0 0
mutual
def StIn (w : World) : Nat → Nat → St → List Value → Prop
 | lo,hi,.set x t,cs=>∃ A c,cs = [.int .i64 1,.string x,.int .i64 t.kind,.int .i64 t.num,.string t.name,.slice A t.kids.length c,nilV,nilV] ∧ KidsAt (High w lo) hi A t.kids
 | lo,hi,.word k x,cs=>cs = [.int .i64 k,.string x,.int .i64 0,.int .i64 0,.string ⟨#[]⟩,nilV,nilV,nilV]
 | lo,hi,.skip,cs=>cs = [.int .i64 8,.string ⟨#[]⟩,.int .i64 0,.int .i64 0,.string ⟨#[]⟩,nilV,nilV,nilV]
 | lo, hi, .loop t b, cs => ∃ A c vb m, cs = [.int .i64 3, .string ⟨#[]⟩, .int .i64 t.kind, .int .i64 t.num, .string t.name, .slice A t.kids.length c, vb, nilV] ∧ lo ≤ m ∧ m ≤ hi ∧ KidsAt (High w lo) m A t.kids ∧
   ((vb = nilV ∧ b = []) ∨ ∃ g cap css,vb = .slice (some ⟨g,0,none⟩) b.length cap ∧ m ≤ g ∧ g < hi ∧ w.ownsRow m 106 8 vb b.length css.flatten ∧ EachIn w g m hi b css)
 | lo, hi, .cond t b e, cs => ∃ A c vb ve m n, cs = [.int .i64 2, .string ⟨#[]⟩, .int .i64 t.kind, .int .i64 t.num, .string t.name, .slice A t.kids.length c, vb, ve] ∧ lo ≤ m ∧ m ≤ n ∧ n ≤ hi ∧ KidsAt (High w lo) m A t.kids ∧
   ((vb = nilV ∧ b = []) ∨ ∃ g cap css,vb = .slice (some ⟨g,0,none⟩) b.length cap ∧ m ≤ g ∧ g < n ∧ w.ownsRow m 106 8 vb b.length css.flatten ∧ EachIn w g m n b css) ∧
   ((ve = nilV ∧ e = []) ∨ ∃ g cap css,ve = .slice (some ⟨g,0,none⟩) e.length cap ∧ n ≤ g ∧ g < hi ∧ w.ownsRow n 106 8 ve e.length css.flatten ∧ EachIn w g n hi e css)
def EachIn (w : World) (g : Nat) : Nat → Nat → List St → List (List Value) → Prop
 | lo,hi,[],css=>css = [] ∧ lo ≤ hi
 | lo,hi,x :: r,css=>∃ cs cr m n,css = cs :: cr ∧ lo ≤ m ∧ m ≤ n ∧ (g < m ∨ n ≤ g) ∧ StIn w m n x cs ∧ EachIn w g n hi r cr
end
def StsIn (w : World) (lo hi : Nat) (ss : List St) (v : Value) : Prop :=
 (v = nilV ∧ ss = []) ∨ ∃ g cap css,v = .slice (some ⟨g,0,none⟩) ss.length cap ∧ lo ≤ g ∧ g < hi ∧ w.ownsRow lo 106 8 v ss.length css.flatten ∧ EachIn w g lo hi ss css
theorem stIn_loop {w : World} {lo hi : Nat} {t : Tm} {b : List St} {cs : List Value} : StIn w lo hi (.loop t b) cs ↔ ∃ A c vb m,cs = [.int .i64 3,.string ⟨#[]⟩,.int .i64 t.kind,.int .i64 t.num,.string t.name,.slice A t.kids.length c,vb,nilV] ∧ lo ≤ m ∧ m ≤ hi ∧ KidsAt (High w lo) m A t.kids ∧ StsIn w m hi b vb:=by
 simp only [StIn,StsIn]
theorem stIn_cond {w : World} {lo hi : Nat} {t : Tm} {b e : List St} {cs : List Value} : StIn w lo hi (.cond t b e) cs ↔ ∃ A c vb ve m n,cs = [.int .i64 2,.string ⟨#[]⟩,.int .i64 t.kind,.int .i64 t.num,.string t.name,.slice A t.kids.length c,vb,ve] ∧ lo ≤ m ∧ m ≤ n ∧ n ≤ hi ∧ KidsAt (High w lo) m A t.kids ∧ StsIn w m n b vb ∧ StsIn w n hi e ve:=by
 simp only [StIn,StsIn]
theorem each_nil {w : World} {g lo hi : Nat} {css : List (List Value)} : EachIn w g lo hi [] css ↔ css = [] ∧ lo ≤ hi:=by
 simp only [EachIn]
theorem high_eq {w w' : World} {lo : Nat} {p : Addr} (h : lo ≤ p.block → w'.heap[p.block]? = w.heap[p.block]?) : (High w' lo).cell? p = (High w lo).cell? p:=by
 apply Option.ext;intro v;constructor
 · intro h1;obtain ⟨h2,h3,c,t,h4⟩:=high_some.1 h1;have e:=h h2;exact high_some.2 ⟨h2,(World.cell?_of_block (w:=w) e).symm.trans h3,c,t,e.symm.trans h4⟩
 · intro h1;obtain ⟨h2,h3,c,t,h4⟩:=high_some.1 h1;have e:=h h2;exact high_some.2 ⟨h2,(World.cell?_of_block (w:=w) e).trans h3,c,t,e.trans h4⟩
theorem kids_fr {S : Nat → Prop} {w w' : World} {lo hi : Nat} {A : Option Addr} {ks : List Tm} (h : KidsAt (High w lo) hi A ks) (hf : Fr S w w') (hS : ∀ b,lo ≤ b → b < hi → ¬ S b) (hh : hi ≤ w.heap.size) : KidsAt (High w' lo) hi A ks :=
 h.keep fun p hp=>high_eq fun hl=>hf.block _ (by omega) (hS _ hl hp)
theorem kids_mono {w : World} {lo lo' hi hi' : Nat} {A : Option Addr} {ks : List Tm} (h : KidsAt (High w lo) hi A ks) (h1 : lo' ≤ lo) (h2 : hi ≤ hi') : KidsAt (High w lo') hi' A ks :=
 h.sub h2 (high_mono h1)
mutual
theorem StIn.fr {S : Nat → Prop} {w w' : World} (hf : Fr S w w') : ∀ (x : St) (lo hi : Nat) (cs : List Value),StIn w lo hi x cs → (∀ b,lo ≤ b → b < hi → ¬ S b) → hi ≤ w.heap.size → StIn w' lo hi x cs
 | .set x t,lo,hi,cs,h,hS,hh=>by
  simp only [StIn] at h ⊢;obtain ⟨A,c,h1,h2⟩:=h;exact ⟨A,c,h1,kids_fr h2 hf hS hh⟩
 | .word k x,lo,hi,cs,h,hS,hh=>by simpa only [StIn] using h
 | .skip,lo,hi,cs,h,hS,hh=>by simpa only [StIn] using h
 | .loop t b,lo,hi,cs,h,hS,hh=>by
  simp only [StIn] at h ⊢;obtain ⟨A,c,vb,m,h1,h2,h3,h4,h5⟩:=h;refine ⟨A,c,vb,m,h1,h2,h3,kids_fr h4 hf (fun b q1 q2=>hS b q1 (by omega)) (by omega),h5.imp id ?_⟩;rintro ⟨g,cap,css,e1,e2,e3,e4,e5⟩;exact ⟨g,cap,css,e1,e2,e3,hf.own e4 (fun b hb=>by rw [e1] at hb;injection hb with hb;exact hS b (by simp only at hb;omega) (by simp only at hb;omega)),EachIn.fr hf b g m hi css e5 (fun q q1 q2 _=>hS q (by omega) q2) hh⟩
 | .cond t b e,lo,hi,cs,h,hS,hh=>by
  simp only [StIn] at h ⊢;obtain ⟨A,c,vb,ve,m,n,h1,h2,h3,h4,h5,h6,h7⟩:=h;refine ⟨A,c,vb,ve,m,n,h1,h2,h3,h4,kids_fr h5 hf (fun b q1 q2=>hS b q1 (by omega)) (by omega),h6.imp id ?_,h7.imp id ?_⟩
  · rintro ⟨g,cap,css,e1,e2,e3,e4,e5⟩;exact ⟨g,cap,css,e1,e2,e3,hf.own e4 (fun b hb=>by rw [e1] at hb;injection hb with hb;exact hS b (by simp only at hb;omega) (by simp only at hb;omega)),EachIn.fr hf b g m n css e5 (fun q q1 q2 _=>hS q (by omega) (by omega)) (by omega)⟩
  · rintro ⟨g,cap,css,e1,e2,e3,e4,e5⟩;exact ⟨g,cap,css,e1,e2,e3,hf.own e4 (fun b hb=>by rw [e1] at hb;injection hb with hb;exact hS b (by simp only at hb;omega) (by simp only at hb;omega)),EachIn.fr hf e g n hi css e5 (fun q q1 q2 _=>hS q (by omega) (by omega)) hh⟩
theorem EachIn.fr {S : Nat → Prop} {w w' : World} (hf : Fr S w w') : ∀ (l : List St) (g lo hi : Nat) (css : List (List Value)),EachIn w g lo hi l css → (∀ b,lo ≤ b → b < hi → b ≠ g → ¬ S b) → hi ≤ w.heap.size → EachIn w' g lo hi l css
 | [],g,lo,hi,css,h,hS,hh=>by simpa only [EachIn] using h
 | x :: r,g,lo,hi,css,h,hS,hh=>by
  simp only [EachIn] at h ⊢;obtain ⟨cs,cr,m,n,h1,h2,h3,h4,h5,h6⟩:=h;have hn:=EachIn.le r g n hi cr h6;exact ⟨cs,cr,m,n,h1,h2,h3,h4,StIn.fr hf x m n cs h5 (fun b q1 q2=>hS b (by omega) (by omega) (by omega)) (by omega),EachIn.fr hf r g n hi cr h6 (fun b q1 q2 q3=>hS b (by omega) q2 q3) hh⟩
theorem EachIn.le {w : World} : ∀ (l : List St) (g lo hi : Nat) (css : List (List Value)),EachIn w g lo hi l css → lo ≤ hi
 | [],g,lo,hi,css,h=>by
  simp only [EachIn] at h;exact h.2
 | x :: r,g,lo,hi,css,h=>by
  simp only [EachIn] at h;obtain ⟨cs,cr,m,n,h1,h2,h3,h4,h5,h6⟩:=h;have:=EachIn.le r g n hi cr h6;omega
end
theorem StsIn.fr {S : Nat → Prop} {w w' : World} {lo hi : Nat} {ss : List St} {v : Value} (h : StsIn w lo hi ss v) (hf : Fr S w w') (hS : ∀ b,lo ≤ b → b < hi → ¬ S b) (hh : hi ≤ w.heap.size) : StsIn w' lo hi ss v:=by
 refine h.imp id ?_;rintro ⟨g,cap,css,e1,e2,e3,e4,e5⟩;exact ⟨g,cap,css,e1,e2,e3,hf.own e4 (fun b hb=>by rw [e1] at hb;injection hb with hb;exact hS b (by simp only at hb;omega) (by simp only at hb;omega)),EachIn.fr hf _ _ _ _ _ e5 (fun q q1 q2 _=>hS q q1 q2) hh⟩
mutual
theorem StIn.mono {w : World} : ∀ (x : St) (lo hi lo' hi' : Nat) (cs : List Value),StIn w lo hi x cs → lo' ≤ lo → hi ≤ hi' → StIn w lo' hi' x cs
 | .set x t,lo,hi,lo',hi',cs,h,h1,h2=>by
  simp only [StIn] at h ⊢;obtain ⟨A,c,e1,e2⟩:=h;exact ⟨A,c,e1,kids_mono e2 h1 h2⟩
 | .word k x,lo,hi,lo',hi',cs,h,h1,h2=>by simpa only [StIn] using h
 | .skip,lo,hi,lo',hi',cs,h,h1,h2=>by simpa only [StIn] using h
 | .loop t b,lo,hi,lo',hi',cs,h,h1,h2=>by
  simp only [StIn] at h ⊢;obtain ⟨A,c,vb,m,q1,q2,q3,q4,q5⟩:=h;refine ⟨A,c,vb,m,q1,by omega,by omega,kids_mono q4 h1 (Nat.le_refl _),q5.imp id ?_⟩;rintro ⟨g,cap,css,e1,e2,e3,e4,e5⟩;exact ⟨g,cap,css,e1,e2,by omega,e4,EachIn.mono b g m hi m hi' css e5 (Nat.le_refl _) h2⟩
 | .cond t b e,lo,hi,lo',hi',cs,h,h1,h2=>by
  simp only [StIn] at h ⊢;obtain ⟨A,c,vb,ve,m,n,q1,q2,q3,q4,q5,q6,q7⟩:=h;refine ⟨A,c,vb,ve,m,n,q1,by omega,q3,by omega,kids_mono q5 h1 (Nat.le_refl _),q6,q7.imp id ?_⟩;rintro ⟨g,cap,css,e1,e2,e3,e4,e5⟩;exact ⟨g,cap,css,e1,e2,by omega,e4,EachIn.mono e g n hi n hi' css e5 (Nat.le_refl _) h2⟩
theorem EachIn.mono {w : World} : ∀ (l : List St) (g lo hi lo' hi' : Nat) (css : List (List Value)),EachIn w g lo hi l css → lo' ≤ lo → hi ≤ hi' → EachIn w g lo' hi' l css
 | [],g,lo,hi,lo',hi',css,h,h1,h2=>by
  simp only [EachIn] at h ⊢;exact ⟨h.1,by omega⟩
 | x :: r,g,lo,hi,lo',hi',css,h,h1,h2=>by
  simp only [EachIn] at h ⊢;obtain ⟨cs,cr,m,n,q1,q2,q3,q4,q5,q6⟩:=h;exact ⟨cs,cr,m,n,q1,by omega,q3,q4,q5,EachIn.mono r g n hi n hi' cr q6 (Nat.le_refl _) h2⟩
end
theorem StsIn.mono {w : World} {lo hi lo' hi' : Nat} {ss : List St} {v : Value} (h : StsIn w lo hi ss v) (h1 : lo' ≤ lo) (h2 : hi ≤ hi') : StsIn w lo' hi' ss v:=by
 refine h.imp id ?_;rintro ⟨g,cap,css,e1,e2,e3,e4,e5⟩;exact ⟨g,cap,css,e1,by omega,by omega,own_mono e4 h1,EachIn.mono _ _ _ _ _ _ _ e5 h1 h2⟩
theorem EachIn.high {w : World} : ∀ (l : List St) (g g' lo hi : Nat) (css : List (List Value)),EachIn w g lo hi l css → hi ≤ g' → EachIn w g' lo hi l css
 | [],g,g',lo,hi,css,h,h1=>by simpa only [EachIn] using h
 | x :: r,g,g',lo,hi,css,h,h1=>by
  simp only [EachIn] at h ⊢;obtain ⟨cs,cr,m,n,q1,q2,q3,q4,q5,q6⟩:=h;have:=EachIn.le r g n hi cr q6;exact ⟨cs,cr,m,n,q1,q2,q3,.inr (by omega),q5,EachIn.high r g g' n hi cr q6 h1⟩
theorem EachIn.app {w : World} : ∀ (l r : List St) (g lo mid hi : Nat) (cl cr : List (List Value)),EachIn w g lo mid l cl → EachIn w g mid hi r cr → EachIn w g lo hi (l ++ r) (cl ++ cr)
 | [],r,g,lo,mid,hi,cl,cr,h,k=>by
  simp only [EachIn] at h;rw [h.1];exact EachIn.mono r g mid hi lo hi cr k h.2 (Nat.le_refl _)
 | x :: l,r,g,lo,mid,hi,cl,cr,h,k=>by
  simp only [EachIn,List.cons_append] at h ⊢;obtain ⟨cs,cq,m,n,q1,q2,q3,q4,q5,q6⟩:=h;subst q1;exact ⟨cs,cq ++ cr,m,n,rfl,q2,q3,q4,q5,EachIn.app l r g n mid hi cq cr q6 k⟩
theorem EachIn.one {w : World} {g lo hi m n : Nat} {x : St} {cs : List Value} (h : StIn w m n x cs) (h1 : lo ≤ m) (h2 : m ≤ n) (h3 : n ≤ hi) (h4 : g < m ∨ n ≤ g) : EachIn w g lo hi [x] [cs]:=by
 simp only [EachIn];exact ⟨cs,[],m,n,rfl,h1,h2,h4,h,rfl,h3⟩
theorem stIn_len {w : World} {lo hi : Nat} {x : St} {cs : List Value} (h : StIn w lo hi x cs) : cs.length = 8:=by
 cases x with
 | set x t=>simp only [StIn] at h;obtain ⟨A,c,rfl,_⟩:=h;rfl
 | word k x=>simp only [StIn] at h;rw [h];rfl
 | skip=>simp only [StIn] at h;rw [h];rfl
 | loop t b=>simp only [StIn] at h;obtain ⟨A,c,vb,m,rfl,_⟩:=h;rfl
 | cond t b e=>simp only [StIn] at h;obtain ⟨A,c,vb,ve,m,n,rfl,_⟩:=h;rfl
theorem each_len {w : World} : ∀ (l : List St) (g lo hi : Nat) (css : List (List Value)),EachIn w g lo hi l css → css.length = l.length ∧ ∀ cs ∈ css,cs.length = 8
 | [],g,lo,hi,css,h=>by
  simp only [EachIn] at h;rw [h.1];simp
 | x :: r,g,lo,hi,css,h=>by
  simp only [EachIn] at h;obtain ⟨cs,cr,m,n,rfl,q2,q3,q4,q5,q6⟩:=h;have:=each_len r g n hi cr q6;exact ⟨by simp [this.1],fun c hc=>by
   rcases List.mem_cons.1 hc with rfl | hc
   · exact stIn_len q5
   · exact this.2 c hc⟩
theorem each_get {w : World} : ∀ (l : List St) (g lo hi : Nat) (css : List (List Value)),EachIn w g lo hi l css → ∀ i (hi' : i < l.length) (hc : i < css.length),∃ m n,lo ≤ m ∧ m ≤ n ∧ n ≤ hi ∧ (g < m ∨ n ≤ g) ∧ StIn w m n l[i] css[i]
 | [],g,lo,hi,css,h=>by intro i hi';simp at hi'
 | x :: r,g,lo,hi,css,h=>by
  simp only [EachIn] at h;obtain ⟨cs,cr,m,n,rfl,q2,q3,q4,q5,q6⟩:=h;have hle:=EachIn.le r g n hi cr q6;intro i hi' hc;cases i with
  | zero=>exact ⟨m,n,q2,q3,hle,q4,q5⟩
  | succ i =>
   obtain ⟨m',n',p1,p2,p3,p4,p5⟩:=each_get r g n hi cr q6 i (by simpa using hi') (by simpa using hc);exact ⟨m',n',by omega,p2,p3,p4,p5⟩
def StDrawn (w : World) (g : Nat) (x : St × Cr) (e : Ending) (w' : World) : Prop :=
 ∃ cs,e = .returned (.agg cs.toArray) ∧ StIn w' w.heap.size w'.heap.size x.1 cs ∧ Went w g x.2 w'
def StsDrawn (w : World) (g : Nat) (x : List St × Cr) (e : Ending) (w' : World) : Prop :=
 ∃ v,e = .returned v ∧ StsIn w' w.heap.size w'.heap.size x.1 v ∧ Went w g x.2 w'
end Go.Proofs.Ytkgoajnnkimkaaa
