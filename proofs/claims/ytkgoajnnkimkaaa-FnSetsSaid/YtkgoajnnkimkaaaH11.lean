/- Contract of the reference's l05Fix: calls and starts are given names. -/
import Derived.Test.YtkgoajnnkimkaaaH10
set_option linter.unusedSimpArgs false
set_option linter.unusedVariables false
set_option maxRecDepth 100000
set_option maxHeartbeats 16000000
namespace Go.Proofs.Ytkgoajnnkimkaaa
open Go.ChangeShapes Go.WideShapes Go.ChangeAt Go.RowKit
theorem setCell_id {w : World} {g i : Nat} {v : Value} (h : w.cell? ⟨g,i,none⟩ = some v) : w.setCell ⟨g,i,none⟩ v = w:=by
 have hh : (w.setCell ⟨g,i,none⟩ v).heap = w.heap:=by
  apply Array.ext_getElem?;intro k;by_cases hk : k = g
  ·
   subst hk;unfold World.cell? at h;cases hb : w.heap[k]? with
   | none=>rw [hb] at h;simp at h
   | some o =>
    cases o with
    | cells c t f =>
     rw [hb] at h;simp only [Option.isSome_none,Bool.false_eq_true,if_false] at h;rw [set_row hb i v];congr 2
     apply Array.ext_getElem?;intro j;rw [Array.getElem?_setIfInBounds];by_cases hj : i = j
     · subst hj;have hl:=(Array.getElem?_eq_some_iff.1 h).1;rw [if_pos rfl,if_pos hl,h]
     · rw [if_neg hj]
    | _=>rw [hb] at h;simp at h
  · exact Below.heap_setCell w _ v k (by simpa using hk)
 show { w with heap:=(w.setCell ⟨g,i,none⟩ v).heap } = w
 rw [hh]
theorem Fr.cell {S : Nat → Prop} {w w' : World} (h : Fr S w w') {a : Addr} {u : Value} (hc : w.cell? a = some u) (hS : ¬ S a.block) : w'.cell? a = some u:=by
 rw [← hc];exact World.cell?_of_block (w:=w) (h.block _ (World.block_lt_of_cell? w a hc) hS)
def St.upd : St → ByteArray → List St → List St → St
 | .set x t,_,_,_=>.set x t
 | .word k _,x,_,_=>.word k x
 | .skip,_,_,_=>.skip
 | .loop t _,_,b,_=>.loop t b
 | .cond t _ _,_,b,e=>.cond t b e
def fixN (ps : List ByteArray) (x : St) (s : Cr) : ByteArray × Cr:=if x.kind = 4 ∨ x.kind = 5 then pickD ps s else (x.name,s)
theorem fixS_eq (ps : List ByteArray) (x : St) (s : Cr) : fixS ps x s = (x.upd (fixN ps x s).1 (fixL ps x.body (fixN ps x s).2).1 (fixL ps x.els (fixL ps x.body (fixN ps x s).2).2).1,(fixL ps x.els (fixL ps x.body (fixN ps x s).2).2).2):=by
 cases x with
 | set x t=>simp [fixS,St.upd,fixN,St.kind,St.body,St.els,fixL]
 | word k x =>
  by_cases h : k = 4 ∨ k = 5
  · simp [fixS,St.upd,fixN,St.kind,St.body,St.els,fixL,h]
  · simp [fixS,St.upd,fixN,St.kind,St.body,St.els,fixL,St.name,h]
 | skip=>simp [fixS,St.upd,fixN,St.kind,St.body,St.els,fixL]
 | loop t b=>simp [fixS,St.upd,fixN,St.kind,St.body,St.els,fixL]
 | cond t b e=>simp [fixS,St.upd,fixN,St.kind,St.body,St.els]
mutual
theorem fixL_len (ps : List ByteArray) : ∀ (l : List St) (s : Cr),(fixL ps l s).1.length = l.length
 | [],s=>by simp [fixL]
 | x :: r,s=>by simp only [fixL,List.length_cons];rw [fixL_len ps r]
end
theorem fixL_snoc (ps : List ByteArray) : ∀ (a : List St) (x : St) (s : Cr),fixL ps (a ++ [x]) s = ((fixL ps a s).1 ++ [(fixS ps x (fixL ps a s).2).1],(fixS ps x (fixL ps a s).2).2)
 | [],x,s=>by simp [fixL]
 | y :: r,x,s=>by
  simp only [List.cons_append,fixL];rw [fixL_snoc ps r x (fixS ps y s).2]
theorem fixL_take {ps : List ByteArray} {ss : List St} {j : Nat} (h : j < ss.length) (s : Cr) : fixL ps (ss.take (j + 1)) s = ((fixL ps (ss.take j) s).1 ++ [(fixS ps ss[j] (fixL ps (ss.take j) s).2).1],(fixS ps ss[j] (fixL ps (ss.take j) s).2).2):=by
 rw [List.take_succ_eq_append_getElem h,fixL_snoc]
def mixL (ps : List ByteArray) (ss : List St) (s : Cr) (j : Nat) : List St:=(fixL ps (ss.take j) s).1 ++ ss.drop j
theorem mixL_len (ps : List ByteArray) (ss : List St) (s : Cr) {j : Nat} (h : j ≤ ss.length) : (mixL ps ss s j).length = ss.length:=by
 unfold mixL;rw [List.length_append,fixL_len,List.length_take_of_le h,List.length_drop];omega
theorem mixL_get {ps : List ByteArray} {ss : List St} {s : Cr} {j : Nat} (h : j < ss.length) : (mixL ps ss s j)[j]'(by rw [mixL_len _ _ _ (Nat.le_of_lt h)];exact h) = ss[j]:=by
 unfold mixL;have hl : (fixL ps (ss.take j) s).1.length = j:=by rw [fixL_len,List.length_take_of_le (Nat.le_of_lt h)]
 rw [List.getElem_append_right (by omega)];simp [hl]
theorem mixL_succ {ps : List ByteArray} {ss : List St} {s : Cr} {j : Nat} (h : j < ss.length) : mixL ps ss s (j + 1) = (mixL ps ss s j).set j (fixS ps ss[j] (fixL ps (ss.take j) s).2).1:=by
 unfold mixL;have hl : (fixL ps (ss.take j) s).1.length = j:=by rw [fixL_len,List.length_take_of_le (Nat.le_of_lt h)]
 have hd:=List.drop_eq_getElem_cons h;rw [fixL_take h,List.set_append_right _ _ (by omega),hl,Nat.sub_self,hd,List.set_cons_zero,List.append_assoc];rfl
theorem st_fix {w : World} {m n : Nat} {x : St} {cs : List Value} (h : StIn w m n x cs) (hmn : m ≤ n) : ∃ A c Ab cb Ae ce m1 n1,
  cs = [.int .i64 x.kind,.string x.name,.int .i64 x.term.kind,.int .i64 x.term.num,.string x.term.name,.slice A x.term.kids.length c,.slice Ab x.body.length cb,.slice Ae x.els.length ce] ∧ m ≤ m1 ∧ m1 ≤ n1 ∧ n1 ≤ n ∧
  StsIn w m1 n1 x.body (.slice Ab x.body.length cb) ∧ StsIn w n1 n x.els (.slice Ae x.els.length ce) ∧
  ∀ (S : Nat → Prop) (w' : World) (nm : ByteArray) (b e : List St),Fr S w w' → (∀ q,m ≤ q → q < m1 → ¬ S q) → n ≤ w.heap.size → (nm = x.name ∨ x.kind = 4 ∨ x.kind = 5) →
   StsIn w' m1 n1 b (.slice Ab x.body.length cb) → StsIn w' n1 n e (.slice Ae x.els.length ce) →
   StIn w' m n (x.upd nm b e) [.int .i64 x.kind,.string nm,.int .i64 x.term.kind,.int .i64 x.term.num,.string x.term.name,.slice A x.term.kids.length c,.slice Ab x.body.length cb,.slice Ae x.els.length ce]:=by
 cases x with
 | set x t =>
  simp only [StIn] at h;obtain ⟨A,c,rfl,hk⟩:=h;refine ⟨A,c,none,0,none,0,n,n,rfl,hmn,Nat.le_refl _,Nat.le_refl _,stsIn_nil _ _ _,stsIn_nil _ _ _,?_⟩;intro S w' nm b e hf hS hn hnm h1 h2;have hnm2 : nm = x:=by rcases hnm with h | h | h <;> simp [St.kind,St.name] at h <;> exact h
  subst hnm2;simp only [St.upd,StIn];exact ⟨A,c,rfl,kids_fr hk hf hS hn⟩
 | word k x =>
  simp only [StIn] at h;subst h;refine ⟨none,0,none,0,none,0,n,n,rfl,hmn,Nat.le_refl _,Nat.le_refl _,stsIn_nil _ _ _,stsIn_nil _ _ _,?_⟩;intro S w' nm b e hf hS hn hnm h1 h2;simp only [St.upd,StIn];rfl
 | skip =>
  simp only [StIn] at h;subst h;refine ⟨none,0,none,0,none,0,n,n,rfl,hmn,Nat.le_refl _,Nat.le_refl _,stsIn_nil _ _ _,stsIn_nil _ _ _,?_⟩;intro S w' nm b e hf hS hn hnm h1 h2;have hnm2 : nm = ⟨#[]⟩:=by rcases hnm with h | h | h <;> simp [St.kind,St.name] at h <;> exact h
  subst hnm2;simp only [St.upd,StIn];rfl
 | loop t b =>
  rw [stIn_loop] at h;obtain ⟨A,c,vb,m1,rfl,h1,h2,hk,hb⟩:=h;obtain ⟨Ab,cb,rfl⟩:=hb.form;refine ⟨A,c,Ab,cb,none,0,m1,n,rfl,h1,h2,Nat.le_refl _,hb,stsIn_nil _ _ _,?_⟩;intro S w' nm b' e hf hS hn hnm q1 q2;have hnm2 : nm = ⟨#[]⟩:=by rcases hnm with h | h | h <;> simp [St.kind,St.name] at h <;> exact h
  subst hnm2;simp only [St.upd];rw [stIn_loop];exact ⟨A,c,_,m1,rfl,h1,h2,kids_fr hk hf hS (by omega),q1⟩
 | cond t b e =>
  rw [stIn_cond] at h;obtain ⟨A,c,vb,ve,m1,n1,rfl,h1,h2,h3,hk,hb,he⟩:=h;obtain ⟨Ab,cb,rfl⟩:=hb.form;obtain ⟨Ae,ce,rfl⟩:=he.form;refine ⟨A,c,Ab,cb,Ae,ce,m1,n1,rfl,h1,h2,h3,hb,he,?_⟩;intro S w' nm b' e' hf hS hn hnm q1 q2;have hnm2 : nm = ⟨#[]⟩:=by rcases hnm with h | h | h <;> simp [St.kind,St.name] at h <;> exact h
  subst hnm2;simp only [St.upd];rw [stIn_cond];exact ⟨A,c,_,_,m1,n1,rfl,h1,h2,h3,kids_fr hk hf hS (by omega),q1,q2⟩
theorem each_upd {w : World} : ∀ (l : List St) (g lo hi : Nat) (css : List (List Value)), EachIn w g lo hi l css → ∀ i (hi' : i < l.length) (hc : i < css.length), ∃ m n, lo ≤ m ∧ m ≤ n ∧ n ≤ hi ∧ (g < m ∨ n ≤ g) ∧ StIn w m n l[i] css[i] ∧
  ∀ (S : Nat → Prop) (w' : World) (x' : St) (cs' : List Value),Fr S w w' → (∀ q,lo ≤ q → q < hi → q ≠ g → (q < m ∨ n ≤ q) → ¬ S q) → hi ≤ w.heap.size → StIn w' m n x' cs' → EachIn w' g lo hi (l.set i x') (css.set i cs')
 | [],g,lo,hi,css,h=>by intro i hi';simp at hi'
 | x :: r,g,lo,hi,css,h=>by
  simp only [EachIn] at h;obtain ⟨cs,cr,m,n,rfl,q2,q3,q4,q5,q6⟩:=h;have hle:=EachIn.le r g n hi cr q6;intro i hi' hc;cases i with
  | zero =>
   refine ⟨m,n,q2,q3,hle,q4,q5,?_⟩;intro S w' x' cs' hf hS hh hx;simp only [List.set_cons_zero,EachIn];exact ⟨cs',cr,m,n,rfl,q2,q3,q4,hx,EachIn.fr hf r g n hi cr q6 (fun b h1 h2 h3=>hS b (by omega) h2 h3 (.inr h1)) hh⟩
  | succ i =>
   obtain ⟨m',n',p1,p2,p3,p4,p5,p6⟩:=each_upd r g n hi cr q6 i (by simpa using hi') (by simpa using hc);refine ⟨m',n',by omega,p2,p3,p4,p5,?_⟩;intro S w' x' cs' hf hS hh hx;simp only [List.set_cons_succ,EachIn];exact ⟨cs,cr.set i cs',m,n,rfl,q2,q3,q4,StIn.fr hf x m n cs q5 (fun b h1 h2=>hS b (by omega) (by omega) (by omega) (.inl (by omega))) (by omega),p6 S w' x' cs' hf (fun b h1 h2 h3 h4=>hS b (by omega) h2 h3 h4) hh hx⟩
theorem flat_set : ∀ (css : List (List Value)),(∀ cs ∈ css,cs.length = 8) → ∀ (i j : Nat) (hi : i < css.length) (v : Value),j < 8 → css.flatten.set (i * 8 + j) v = (css.set i (css[i].set j v)).flatten
 | [],h,i,j,hi,v,hj=>by simp at hi
 | c :: r,h,i,j,hi,v,hj=>by
  have hc:=h c (by simp);cases i with
  | zero =>
   simp only [List.flatten_cons,Nat.zero_mul,Nat.zero_add,List.getElem_cons_zero,List.set_cons_zero];rw [List.set_append_left _ _ (by omega)]
  | succ i =>
   simp only [List.flatten_cons,List.getElem_cons_succ,List.set_cons_succ];rw [List.set_append_right _ _ (by omega)];have e : (i + 1) * 8 + j - c.length = i * 8 + j:=by omega
   rw [e,flat_set r (fun x hx=>h x (by simp [hx])) i j (by simpa using hi) v hj]
theorem row_cell {w : World} {lo gb n cap : Nat} {css : List (List Value)} (ho : w.ownsRow lo 106 8 (.slice (some ⟨gb,0,none⟩) n cap) n css.flatten) (hl : ∀ cs ∈ css,cs.length = 8) {i j : Nat} (hi : i < css.length) (hj : j < 8) {u : Value} (hu : css[i][j]? = some u) : w.cell? ⟨gb,i * 8 + j,none⟩ = some u:=by
 obtain ⟨ad,ea,_,hcell⟩:=own_rd ho (i * 8 + j) u (by rw [flat_get css hl i j hi hj];exact hu);injection ea with ea;subst ea
 rwa [add_mk] at hcell
def FixSaid (ps : List ByteArray) (ss : List St) : Prop:=∀ (lo hi : Nat) (v : Value) (g : Nat) (s : Cr) (A : Option Addr) (c : Nat) (w : World),StsIn w lo hi ss v → CurAt w g s → g < lo → hi ≤ w.heap.size → Rd w lo A (ps.map sv) → (∀ ad,A = some ad → ad.block ≠ g) →
 Calls Try.prog 66 #[.pointer (some ⟨g,0,none⟩),v,.slice A ps.length c] w fun e w'=>e = .returned v ∧ StsIn w' lo hi (fixL ps ss s).1 v ∧ CurAt w' g (fixL ps ss s).2 ∧ Fr (fun b=>b = g ∨ (lo ≤ b ∧ b < hi)) w w'
theorem l05Fix_of (ps : List ByteArray) (hp1 : 1 ≤ ps.length) (hp2 : ps.length ≤ 256) (ss : List St) (hn : St.cntL ss ≤ 1048576) (ih : ∀ zs : List St,St.cntL zs < St.cntL ss → FixSaid ps zs) : FixSaid ps ss:=by
 intro lo hi v g s A c w h hc hgl hh hr hne;obtain ⟨A0,c0,rfl⟩:=h.form;have HI:=Lib.hid ih;have hsl:=cntL_len ss;have HRD:=Lib.hid (show ∀ V,Fr (fun b=>b = g ∨ (lo ≤ b ∧ b < hi)) w V → Rd V lo A (ps.map sv) from fun V hF j u hu=>by
  obtain ⟨ad,e,hb,hcell⟩:=hr j u hu;exact ⟨ad,e,hb,hF.cell hcell (by rw [block_of_add];intro q;rcases q with q | q;exact hne ad e q;omega)⟩)
 clear ih hr
 go_enter Try.func66, Try.ntmps66
 go_wp2_with fail
 go_loopg [7] ss.length (fun mm i wr=>∃ j : Nat,j ≤ ss.length ∧ mm = ss.length - j ∧ i = .int .i64 j ∧ StsIn wr lo hi (mixL ps ss s j) (.slice A0 ss.length c0) ∧ CurAt wr g (fixL ps (ss.take j) s).2 ∧ Fr (fun b=>b = g ∨ (lo ≤ b ∧ b < hi)) w wr)
 case atStart=>exact ⟨0,by omega,by omega,rfl,by simpa [mixL,fixL] using h,by simpa [fixL] using hc,Fr.refl _ _⟩
 case round =>
  clear h hc;obtain ⟨j,hj,rfl,rfl,hS,hcu,hF⟩:=hrel;have hszw:=hF.size;have y2 : (0 : Int) ≤ (j : Int):=by omega
  by_cases hlt : j < ss.length
  ·
   have y1 : (j : Int) < (ss.length : Int):=by omega
   have HML:=Lib.hid (mixL_len ps ss s (Nat.le_of_lt hlt));have HMS:=Lib.hid (mixL_succ (ps:=ps) (s:=s) hlt);have HMG:=Lib.hid (mixL_get (ps:=ps) (s:=s) hlt);have HFW:=Lib.hid hF;have HCU:=Lib.hid hcu;clear hF hcu;rcases hS with ⟨_,e0⟩ | ⟨gb,cap,css,ev,hgb1,hgb2,ho,hE⟩
   · exact absurd (congrArg List.length e0) (by rw [HML.out,List.length_nil];omega)
   rw [HML.out] at ev ho;injection ev with e1 e2 e3;subst e1 e3;have hlen:=each_len _ _ _ _ _ hE;have hcl : j < css.length:=by rw [hlen.1,HML.out];exact hlt
   obtain ⟨m,n,q1,q2,q3,q4,hst,hupd⟩:=each_upd _ _ _ _ _ hE j (by rw [HML.out];exact hlt) hcl;rw [HMG.out] at hst;have hsub:=subs_cnt ss[j];have hle : St.cnt ss[j] ≤ St.cntL ss:=cnt_le hlt;generalize hx : ss[j] = x at hst hsub hle HMS;have HXE:=Lib.hid hx;clear hx HMG hE;obtain ⟨A1,c1,Ab,cb,Ae,ce,m1,n1,ecs,r1,r2,r3,hb,he,hre⟩:=st_fix hst q2;clear hst;have k0:=row_cell ho hlen.2 hcl (j:=0) (by omega) (u:=.int .i64 x.kind) (by rw [ecs];rfl);rw [Nat.add_zero] at k0;by_cases h4 : x.kind = 4
   ·
    rw [h4] at k0;have hkk : x.kind = 4 ∨ x.kind = 5:=by omega
    have HFN:=Lib.hid (show fixN ps x (fixL ps (ss.take j) s).2 = pickD ps (fixL ps (ss.take j) s).2 from if_pos hkk);have hbl:=belowD_lt (fixL ps (ss.take j) s).2 hp1;have HPE:=Lib.hid (show pickD ps (fixL ps (ss.take j) s).2 = ((ps[(belowD ps.length (fixL ps (ss.take j) s).2).1]?).getD ⟨#[]⟩,(belowD ps.length (fixL ps (ss.take j) s).2).2) from rfl);have HB:=Lib.hid (l01Below_any ps.length g (fixL ps (ss.take j) s).2 wr HCU.out hp1 hp2);generalize belowD ps.length (fixL ps (ss.take j) s).2 = bd at HB HPE hbl;have k1:=row_cell ho hlen.2 hcl (j:=1) (by omega) (u:=.string x.name) (by rw [ecs];rfl);have hno : ¬ gb = g:=by omega
    have HHO:=Lib.hid ho;clear ho;go_wp2_with fail
    refine HB.out.mono ?_;rintro e w1 ⟨rfl,hw1⟩;have ho1:=hw1.2.own HHO.out (fun b h e=>by injection h with h;simp only at h;omega);have k1':=row_cell ho1 hlen.2 hcl (j:=1) (by omega) (u:=.string x.name) (by rw [ecs];rfl);have k6:=row_cell ho1 hlen.2 hcl (j:=6) (by omega) (u:=.slice Ab x.body.length cb) (by rw [ecs];rfl);have f1:=ho1.frozenAt (j * 8 + 1);have hrd1:=HRD.out _ (HFW.out.trans (hw1.2.mono (T:=(fun b=>b = g ∨ (lo ≤ b ∧ b < hi))) (fun b _ e=>.inl e)));obtain ⟨ad,ea,_,hcell⟩:=hrd1.str hbl;subst ea;have hpe:=HPE.out;rw [List.getElem?_eq_getElem hbl,Option.getD_some] at hpe;have HPE:=Lib.hid hpe;clear hpe;have z3 : (0 : Int) ≤ (bd.1 : Int):=by omega
    have z4 : (bd.1 : Int) < (ps.length : Int):=by omega
    obtain ⟨st1,st2⟩:=ho1.stored (j * 8 + 1) (.string ps[bd.1]);rw [flat_set css hlen.2 j 1 hcl _ (by omega),ecs] at st1;have HST1:=Lib.hid (show (w1.setCell ⟨gb,j * 8 + 1,none⟩ (.string ps[bd.1])).ownsRow lo 106 8 (.slice (some ⟨gb,0,none⟩) ss.length c0) ss.length (css.set j [.int .i64 x.kind,.string ps[bd.1],.int .i64 x.term.kind,.int .i64 x.term.num,.string x.term.name,.slice A1 x.term.kids.length c1,.slice Ab x.body.length cb,.slice Ae x.els.length ce]).flatten from st1);have hF2 : Fr (fun b=>b = g ∨ b = gb) wr (w1.setCell ⟨gb,j * 8 + 1,none⟩ (.string ps[bd.1])):=(hw1.2.mono (T:=(fun b=>b = g ∨ b = gb)) (fun b _ e=>.inl e)).trans (Fr.set (S:=(fun b=>b = g ∨ b = gb)) (Fr.refl _ _) (a:=⟨gb,j * 8 + 1,none⟩) (fun _=>.inr rfl) _);have HF2x:=Lib.hid hF2;have hc2 : CurAt (w1.setCell ⟨gb,j * 8 + 1,none⟩ (.string ps[bd.1])) g bd.2:=hw1.1.fr (Fr.set (S:=(· = gb)) (Fr.refl _ _) (a:=⟨gb,j * 8 + 1,none⟩) (fun _=>rfl) _) (fun b hb e=>by omega);have HC2x:=Lib.hid hc2;clear st1 st2 hF2 hc2 ho1 hrd1 hw1 k1;go_wp2_with fail
    have HFN:=Lib.hid (HFN.out.trans HPE.out);have ho2:=HST1.out;have hF2:=HF2x.out;have hc2:=HC2x.out;clear k1' k6 f1 hcell HST1 HF2x HC2x;generalize w1.setCell ⟨gb,j * 8 + 1,none⟩ (.string ps[bd.1]) = w2 at ho2 hF2 hc2 ⊢;generalize ps[bd.1] = nm at ho2 HFN ⊢;generalize bd.2 = s2 at hc2 HFN;have HNM:=Lib.hid (show nm = x.name ∨ x.kind = 4 ∨ x.kind = 5 from .inr hkk);have hl2 : ∀ cs ∈ css.set j [.int .i64 x.kind,.string nm,.int .i64 x.term.kind,.int .i64 x.term.num,.string x.term.name,.slice A1 x.term.kids.length c1,.slice Ab x.body.length cb,.slice Ae x.els.length ce],cs.length = 8:=fun cs hcs=>by
     rcases List.mem_or_eq_of_mem_set hcs with h | rfl
     · exact hlen.2 cs h
     · rfl
    have hj2 : j < (css.set j [.int .i64 x.kind,.string nm,.int .i64 x.term.kind,.int .i64 x.term.num,.string x.term.name,.slice A1 x.term.kids.length c1,.slice Ab x.body.length cb,.slice Ae x.els.length ce]).length:=by simpa using hcl
    have hgj2 : (css.set j [.int .i64 x.kind,.string nm,.int .i64 x.term.kind,.int .i64 x.term.num,.string x.term.name,.slice A1 x.term.kids.length c1,.slice Ab x.body.length cb,.slice Ae x.els.length ce])[j] = [.int .i64 x.kind,.string nm,.int .i64 x.term.kind,.int .i64 x.term.num,.string x.term.name,.slice A1 x.term.kids.length c1,.slice Ab x.body.length cb,.slice Ae x.els.length ce]:=by simp
    have HL2:=Lib.hid hl2;have hsz2:=hF2.size;have hb2:=hb.fr hF2 (fun b h1 h2 e=>by omega) (by omega);have he2:=he.fr hF2 (fun b h1 h2 e=>by omega) (by omega);have hFw2:=HFW.out.trans (hF2.mono (T:=(fun b=>b = g ∨ (lo ≤ b ∧ b < hi))) (fun b _ e=>by omega));have HR2:=Lib.hid (HRD.out _ hFw2);have HFW2:=Lib.hid hFw2;have k6:=row_cell ho2 hl2 hj2 (j:=6) (by omega) (u:=.slice Ab x.body.length cb) (by rw [hgj2];rfl);have f6:=ho2.frozenAt (j * 8 + 6);have HC1:=Lib.hid (HI.out x.body (by omega) m1 n1 _ g s2 _ c w2 hb2 hc2 (by omega) (by omega) (HR2.out.mono (by omega)) hne);have HO2:=Lib.hid ho2;have HF2:=Lib.hid hF2;have HE2:=Lib.hid he2;clear hF2 ho2 hb2 he2 hFw2 hc2 hl2;generalize hbf : fixL ps x.body s2 = bf at HC1;go_wp2_with fail
    refine HC1.out.mono ?_;rintro e w3 ⟨rfl,hb3,hc3,hF3⟩;have hsz3:=hF3.size;have ho3:=hF3.own HO2.out (fun b h e=>by injection h with h;simp only at h;omega);have k6':=row_cell ho3 HL2.out hj2 (j:=6) (by omega) (u:=.slice Ab x.body.length cb) (by rw [hgj2];rfl);have k7:=row_cell ho3 HL2.out hj2 (j:=7) (by omega) (u:=.slice Ae x.els.length ce) (by rw [hgj2];rfl);have f6':=ho3.frozenAt (j * 8 + 6);have hFw3:=HFW2.out.trans (hF3.mono (T:=(fun b=>b = g ∨ (lo ≤ b ∧ b < hi))) (fun b _ e=>by omega));have he3:=HE2.out.fr hF3 (fun b h1 h2 e=>by omega) (by omega);have HC2:=Lib.hid (HI.out x.els (by omega) n1 n _ g bf.2 _ c w3 he3 hc3 (by omega) (by omega) ((HRD.out _ hFw3).mono (by omega)) hne);have hid6:=Lib.hid (setCell_id k6');have HFW3:=Lib.hid hFw3;have HO3:=Lib.hid ho3;have HF3:=Lib.hid (HF2.out.mono (T:=(fun b=>b = g ∨ b = gb ∨ (m1 ≤ b ∧ b < n))) (fun b _ e=>by omega) |>.trans (hF3.mono (T:=(fun b=>b = g ∨ b = gb ∨ (m1 ≤ b ∧ b < n))) (fun b _ e=>by omega)));have HB3:=Lib.hid hb3;clear k6 f6 hFw3 ho3 hF3 he3 hc3 hb3;generalize hef : fixL ps x.els bf.2 = ef at HC2;go_wp2_with fail
    rw [hid6.out];refine HC2.out.mono ?_;rintro e w4 ⟨rfl,he4,hc4,hF4⟩;have hsz4:=hF4.size;have ho4:=hF4.own HO3.out (fun b h e=>by injection h with h;simp only at h;omega);have k7':=row_cell ho4 HL2.out hj2 (j:=7) (by omega) (u:=.slice Ae x.els.length ce) (by rw [hgj2];rfl);have f7':=ho4.frozenAt (j * 8 + 7);have hid7:=Lib.hid (setCell_id k7');have hFw4:=HFW3.out.trans (hF4.mono (T:=(fun b=>b = g ∨ (lo ≤ b ∧ b < hi))) (fun b _ e=>by omega));have hF14:=HF3.out.trans (hF4.mono (T:=(fun b=>b = g ∨ b = gb ∨ (m1 ≤ b ∧ b < n))) (fun b _ e=>by omega));have hb4:=HB3.out.fr hF4 (fun b h1 h2 e=>by omega) (by omega);have hfx : fixS ps x (fixL ps (ss.take j) s).2 = (x.upd nm bf.1 ef.1,ef.2):=by
     rw [fixS_eq,HFN.out];simp only;rw [hbf,hef]
    have hst4:=hre (fun b=>b = g ∨ b = gb ∨ (m1 ≤ b ∧ b < n)) w4 nm bf.1 ef.1 hF14 (fun q h1 h2 e=>by omega) (by omega) HNM.out hb4 he4;have hE4:=hupd (fun b=>b = g ∨ b = gb ∨ (m1 ≤ b ∧ b < n)) w4 _ _ hF14 (fun q h1 h2 h3 h4 e=>by omega) (by omega) hst4;have hFIN : StsIn w4 lo hi (mixL ps ss s (j + 1)) (.slice (some ⟨gb,0,none⟩) ss.length c0):=by
     rw [HMS.out,hfx];refine .inr ⟨gb,c0,_,by rw [List.length_set,HML.out],hgb1,hgb2,?_,hE4⟩;rw [List.length_set,HML.out];exact ho4
    have hCUR : CurAt w4 g (fixL ps (ss.take (j + 1)) s).2:=by
     rw [fixL_take hlt,HXE.out,hfx];exact hc4
    have HFIN:=Lib.hid hFIN;have HCUR:=Lib.hid hCUR;have HFW4:=Lib.hid hFw4;clear k6' k7 f6' hFw4 hF14 hb4 he4 hst4 hE4 hFIN hCUR hc4 hF4 ho4 hfx;go_wp2_with fail
    go_roundg (ss.length - (j + 1))
    case measure=>omega
    case rel=>rw [hid7.out];exact ⟨j + 1,by omega,rfl,by go_num,HFIN.out,HCUR.out,HFW4.out⟩
   ·
    by_cases h5 : x.kind = 5
    ·
     rw [h5] at k0;have hkk : x.kind = 4 ∨ x.kind = 5:=by omega
     have HFN:=Lib.hid (show fixN ps x (fixL ps (ss.take j) s).2 = pickD ps (fixL ps (ss.take j) s).2 from if_pos hkk);have hbl:=belowD_lt (fixL ps (ss.take j) s).2 hp1;have HPE:=Lib.hid (show pickD ps (fixL ps (ss.take j) s).2 = ((ps[(belowD ps.length (fixL ps (ss.take j) s).2).1]?).getD ⟨#[]⟩,(belowD ps.length (fixL ps (ss.take j) s).2).2) from rfl);have HB:=Lib.hid (l01Below_any ps.length g (fixL ps (ss.take j) s).2 wr HCU.out hp1 hp2);generalize belowD ps.length (fixL ps (ss.take j) s).2 = bd at HB HPE hbl;have k1:=row_cell ho hlen.2 hcl (j:=1) (by omega) (u:=.string x.name) (by rw [ecs];rfl);have hno : ¬ gb = g:=by omega
     have HHO:=Lib.hid ho;clear ho;go_wp2_with fail
     refine HB.out.mono ?_;rintro e w1 ⟨rfl,hw1⟩;have ho1:=hw1.2.own HHO.out (fun b h e=>by injection h with h;simp only at h;omega);have k1':=row_cell ho1 hlen.2 hcl (j:=1) (by omega) (u:=.string x.name) (by rw [ecs];rfl);have k6:=row_cell ho1 hlen.2 hcl (j:=6) (by omega) (u:=.slice Ab x.body.length cb) (by rw [ecs];rfl);have f1:=ho1.frozenAt (j * 8 + 1);have hrd1:=HRD.out _ (HFW.out.trans (hw1.2.mono (T:=(fun b=>b = g ∨ (lo ≤ b ∧ b < hi))) (fun b _ e=>.inl e)));obtain ⟨ad,ea,_,hcell⟩:=hrd1.str hbl;subst ea;have hpe:=HPE.out;rw [List.getElem?_eq_getElem hbl,Option.getD_some] at hpe;have HPE:=Lib.hid hpe;clear hpe;have z3 : (0 : Int) ≤ (bd.1 : Int):=by omega
     have z4 : (bd.1 : Int) < (ps.length : Int):=by omega
     obtain ⟨st1,st2⟩:=ho1.stored (j * 8 + 1) (.string ps[bd.1]);rw [flat_set css hlen.2 j 1 hcl _ (by omega),ecs] at st1;have HST1:=Lib.hid (show (w1.setCell ⟨gb,j * 8 + 1,none⟩ (.string ps[bd.1])).ownsRow lo 106 8 (.slice (some ⟨gb,0,none⟩) ss.length c0) ss.length (css.set j [.int .i64 x.kind,.string ps[bd.1],.int .i64 x.term.kind,.int .i64 x.term.num,.string x.term.name,.slice A1 x.term.kids.length c1,.slice Ab x.body.length cb,.slice Ae x.els.length ce]).flatten from st1);have hF2 : Fr (fun b=>b = g ∨ b = gb) wr (w1.setCell ⟨gb,j * 8 + 1,none⟩ (.string ps[bd.1])):=(hw1.2.mono (T:=(fun b=>b = g ∨ b = gb)) (fun b _ e=>.inl e)).trans (Fr.set (S:=(fun b=>b = g ∨ b = gb)) (Fr.refl _ _) (a:=⟨gb,j * 8 + 1,none⟩) (fun _=>.inr rfl) _);have HF2x:=Lib.hid hF2;have hc2 : CurAt (w1.setCell ⟨gb,j * 8 + 1,none⟩ (.string ps[bd.1])) g bd.2:=hw1.1.fr (Fr.set (S:=(· = gb)) (Fr.refl _ _) (a:=⟨gb,j * 8 + 1,none⟩) (fun _=>rfl) _) (fun b hb e=>by omega);have HC2x:=Lib.hid hc2;clear st1 st2 hF2 hc2 ho1 hrd1 hw1 k1;go_wp2_with fail
     have HFN:=Lib.hid (HFN.out.trans HPE.out);have ho2:=HST1.out;have hF2:=HF2x.out;have hc2:=HC2x.out;clear k1' k6 f1 hcell HST1 HF2x HC2x;generalize w1.setCell ⟨gb,j * 8 + 1,none⟩ (.string ps[bd.1]) = w2 at ho2 hF2 hc2 ⊢;generalize ps[bd.1] = nm at ho2 HFN ⊢;generalize bd.2 = s2 at hc2 HFN;have HNM:=Lib.hid (show nm = x.name ∨ x.kind = 4 ∨ x.kind = 5 from .inr hkk);have hl2 : ∀ cs ∈ css.set j [.int .i64 x.kind,.string nm,.int .i64 x.term.kind,.int .i64 x.term.num,.string x.term.name,.slice A1 x.term.kids.length c1,.slice Ab x.body.length cb,.slice Ae x.els.length ce],cs.length = 8:=fun cs hcs=>by
      rcases List.mem_or_eq_of_mem_set hcs with h | rfl
      · exact hlen.2 cs h
      · rfl
     have hj2 : j < (css.set j [.int .i64 x.kind,.string nm,.int .i64 x.term.kind,.int .i64 x.term.num,.string x.term.name,.slice A1 x.term.kids.length c1,.slice Ab x.body.length cb,.slice Ae x.els.length ce]).length:=by simpa using hcl
     have hgj2 : (css.set j [.int .i64 x.kind,.string nm,.int .i64 x.term.kind,.int .i64 x.term.num,.string x.term.name,.slice A1 x.term.kids.length c1,.slice Ab x.body.length cb,.slice Ae x.els.length ce])[j] = [.int .i64 x.kind,.string nm,.int .i64 x.term.kind,.int .i64 x.term.num,.string x.term.name,.slice A1 x.term.kids.length c1,.slice Ab x.body.length cb,.slice Ae x.els.length ce]:=by simp
     have HL2:=Lib.hid hl2;have hsz2:=hF2.size;have hb2:=hb.fr hF2 (fun b h1 h2 e=>by omega) (by omega);have he2:=he.fr hF2 (fun b h1 h2 e=>by omega) (by omega);have hFw2:=HFW.out.trans (hF2.mono (T:=(fun b=>b = g ∨ (lo ≤ b ∧ b < hi))) (fun b _ e=>by omega));have HR2:=Lib.hid (HRD.out _ hFw2);have HFW2:=Lib.hid hFw2;have k6:=row_cell ho2 hl2 hj2 (j:=6) (by omega) (u:=.slice Ab x.body.length cb) (by rw [hgj2];rfl);have f6:=ho2.frozenAt (j * 8 + 6);have HC1:=Lib.hid (HI.out x.body (by omega) m1 n1 _ g s2 _ c w2 hb2 hc2 (by omega) (by omega) (HR2.out.mono (by omega)) hne);have HO2:=Lib.hid ho2;have HF2:=Lib.hid hF2;have HE2:=Lib.hid he2;clear hF2 ho2 hb2 he2 hFw2 hc2 hl2;generalize hbf : fixL ps x.body s2 = bf at HC1;go_wp2_with fail
     refine HC1.out.mono ?_;rintro e w3 ⟨rfl,hb3,hc3,hF3⟩;have hsz3:=hF3.size;have ho3:=hF3.own HO2.out (fun b h e=>by injection h with h;simp only at h;omega);have k6':=row_cell ho3 HL2.out hj2 (j:=6) (by omega) (u:=.slice Ab x.body.length cb) (by rw [hgj2];rfl);have k7:=row_cell ho3 HL2.out hj2 (j:=7) (by omega) (u:=.slice Ae x.els.length ce) (by rw [hgj2];rfl);have f6':=ho3.frozenAt (j * 8 + 6);have hFw3:=HFW2.out.trans (hF3.mono (T:=(fun b=>b = g ∨ (lo ≤ b ∧ b < hi))) (fun b _ e=>by omega));have he3:=HE2.out.fr hF3 (fun b h1 h2 e=>by omega) (by omega);have HC2:=Lib.hid (HI.out x.els (by omega) n1 n _ g bf.2 _ c w3 he3 hc3 (by omega) (by omega) ((HRD.out _ hFw3).mono (by omega)) hne);have hid6:=Lib.hid (setCell_id k6');have HFW3:=Lib.hid hFw3;have HO3:=Lib.hid ho3;have HF3:=Lib.hid (HF2.out.mono (T:=(fun b=>b = g ∨ b = gb ∨ (m1 ≤ b ∧ b < n))) (fun b _ e=>by omega) |>.trans (hF3.mono (T:=(fun b=>b = g ∨ b = gb ∨ (m1 ≤ b ∧ b < n))) (fun b _ e=>by omega)));have HB3:=Lib.hid hb3;clear k6 f6 hFw3 ho3 hF3 he3 hc3 hb3;generalize hef : fixL ps x.els bf.2 = ef at HC2;go_wp2_with fail
     rw [hid6.out];refine HC2.out.mono ?_;rintro e w4 ⟨rfl,he4,hc4,hF4⟩;have hsz4:=hF4.size;have ho4:=hF4.own HO3.out (fun b h e=>by injection h with h;simp only at h;omega);have k7':=row_cell ho4 HL2.out hj2 (j:=7) (by omega) (u:=.slice Ae x.els.length ce) (by rw [hgj2];rfl);have f7':=ho4.frozenAt (j * 8 + 7);have hid7:=Lib.hid (setCell_id k7');have hFw4:=HFW3.out.trans (hF4.mono (T:=(fun b=>b = g ∨ (lo ≤ b ∧ b < hi))) (fun b _ e=>by omega));have hF14:=HF3.out.trans (hF4.mono (T:=(fun b=>b = g ∨ b = gb ∨ (m1 ≤ b ∧ b < n))) (fun b _ e=>by omega));have hb4:=HB3.out.fr hF4 (fun b h1 h2 e=>by omega) (by omega);have hfx : fixS ps x (fixL ps (ss.take j) s).2 = (x.upd nm bf.1 ef.1,ef.2):=by
      rw [fixS_eq,HFN.out];simp only;rw [hbf,hef]
     have hst4:=hre (fun b=>b = g ∨ b = gb ∨ (m1 ≤ b ∧ b < n)) w4 nm bf.1 ef.1 hF14 (fun q h1 h2 e=>by omega) (by omega) HNM.out hb4 he4;have hE4:=hupd (fun b=>b = g ∨ b = gb ∨ (m1 ≤ b ∧ b < n)) w4 _ _ hF14 (fun q h1 h2 h3 h4 e=>by omega) (by omega) hst4;have hFIN : StsIn w4 lo hi (mixL ps ss s (j + 1)) (.slice (some ⟨gb,0,none⟩) ss.length c0):=by
      rw [HMS.out,hfx];refine .inr ⟨gb,c0,_,by rw [List.length_set,HML.out],hgb1,hgb2,?_,hE4⟩;rw [List.length_set,HML.out];exact ho4
     have hCUR : CurAt w4 g (fixL ps (ss.take (j + 1)) s).2:=by
      rw [fixL_take hlt,HXE.out,hfx];exact hc4
     have HFIN:=Lib.hid hFIN;have HCUR:=Lib.hid hCUR;have HFW4:=Lib.hid hFw4;clear k6' k7 f6' hFw4 hF14 hb4 he4 hst4 hE4 hFIN hCUR hc4 hF4 ho4 hfx;go_wp2_with fail
     go_roundg (ss.length - (j + 1))
     case measure=>omega
     case rel=>rw [hid7.out];exact ⟨j + 1,by omega,rfl,by go_num,HFIN.out,HCUR.out,HFW4.out⟩
    ·
     have y4 : (x.kind == 4) = false:=by simpa using h4
     have y5 : (x.kind == 5) = false:=by simpa using h5
     have HFN:=Lib.hid (show fixN ps x (fixL ps (ss.take j) s).2 = (x.name,(fixL ps (ss.take j) s).2) from if_neg (by omega));have hF2 : Fr (fun b=>b = g ∨ b = gb) wr wr:=Fr.refl _ _;have hc2:=HCU.out;have ho2 : wr.ownsRow lo 106 8 (.slice (some ⟨gb,0,none⟩) ss.length c0) ss.length (css.set j [.int .i64 x.kind,.string x.name,.int .i64 x.term.kind,.int .i64 x.term.num,.string x.term.name,.slice A1 x.term.kids.length c1,.slice Ab x.body.length cb,.slice Ae x.els.length ce]).flatten:=by
      rw [← ecs,List.set_getElem_self];exact ho
     clear ho;have hl2 : ∀ cs ∈ css.set j [.int .i64 x.kind,.string x.name,.int .i64 x.term.kind,.int .i64 x.term.num,.string x.term.name,.slice A1 x.term.kids.length c1,.slice Ab x.body.length cb,.slice Ae x.els.length ce],cs.length = 8:=fun cs hcs=>by
      rcases List.mem_or_eq_of_mem_set hcs with h | rfl
      · exact hlen.2 cs h
      · rfl
     have hj2 : j < (css.set j [.int .i64 x.kind,.string x.name,.int .i64 x.term.kind,.int .i64 x.term.num,.string x.term.name,.slice A1 x.term.kids.length c1,.slice Ab x.body.length cb,.slice Ae x.els.length ce]).length:=by simpa using hcl
     have hgj2 : (css.set j [.int .i64 x.kind,.string x.name,.int .i64 x.term.kind,.int .i64 x.term.num,.string x.term.name,.slice A1 x.term.kids.length c1,.slice Ab x.body.length cb,.slice Ae x.els.length ce])[j] = [.int .i64 x.kind,.string x.name,.int .i64 x.term.kind,.int .i64 x.term.num,.string x.term.name,.slice A1 x.term.kids.length c1,.slice Ab x.body.length cb,.slice Ae x.els.length ce]:=by simp
     have HL2:=Lib.hid hl2;have hsz2:=hF2.size;have hb2:=hb.fr hF2 (fun b h1 h2 e=>by omega) (by omega);have he2:=he.fr hF2 (fun b h1 h2 e=>by omega) (by omega);have hFwr:=HFW.out.trans (hF2.mono (T:=(fun b=>b = g ∨ (lo ≤ b ∧ b < hi))) (fun b _ e=>by omega));have HR2:=Lib.hid (HRD.out _ hFwr);have HFW2:=Lib.hid hFwr;have k6:=row_cell ho2 hl2 hj2 (j:=6) (by omega) (u:=.slice Ab x.body.length cb) (by rw [hgj2];rfl);have f6:=ho2.frozenAt (j * 8 + 6);have HC1:=Lib.hid (HI.out x.body (by omega) m1 n1 _ g (fixL ps (ss.take j) s).2 _ c wr hb2 hc2 (by omega) (by omega) (HR2.out.mono (by omega)) hne);have HO2:=Lib.hid ho2;have HF2:=Lib.hid hF2;have HE2:=Lib.hid he2;clear hF2 ho2 hb2 he2 hFwr hc2 hl2;generalize hbf : fixL ps x.body (fixL ps (ss.take j) s).2 = bf at HC1;go_wp2_with fail
     refine HC1.out.mono ?_;rintro e w3 ⟨rfl,hb3,hc3,hF3⟩;have hsz3:=hF3.size;have ho3:=hF3.own HO2.out (fun b h e=>by injection h with h;simp only at h;omega);have k6':=row_cell ho3 HL2.out hj2 (j:=6) (by omega) (u:=.slice Ab x.body.length cb) (by rw [hgj2];rfl);have k7:=row_cell ho3 HL2.out hj2 (j:=7) (by omega) (u:=.slice Ae x.els.length ce) (by rw [hgj2];rfl);have f6':=ho3.frozenAt (j * 8 + 6);have hFw3:=HFW2.out.trans (hF3.mono (T:=(fun b=>b = g ∨ (lo ≤ b ∧ b < hi))) (fun b _ e=>by omega));have he3:=HE2.out.fr hF3 (fun b h1 h2 e=>by omega) (by omega);have HC2:=Lib.hid (HI.out x.els (by omega) n1 n _ g bf.2 _ c w3 he3 hc3 (by omega) (by omega) ((HRD.out _ hFw3).mono (by omega)) hne);have hid6:=Lib.hid (setCell_id k6');have HFW3:=Lib.hid hFw3;have HO3:=Lib.hid ho3;have HF3:=Lib.hid (HF2.out.mono (T:=(fun b=>b = g ∨ b = gb ∨ (m1 ≤ b ∧ b < n))) (fun b _ e=>by omega) |>.trans (hF3.mono (T:=(fun b=>b = g ∨ b = gb ∨ (m1 ≤ b ∧ b < n))) (fun b _ e=>by omega)));have HB3:=Lib.hid hb3;clear k6 f6 hFw3 ho3 hF3 he3 hc3 hb3;generalize hef : fixL ps x.els bf.2 = ef at HC2;go_wp2_with fail
     rw [hid6.out];refine HC2.out.mono ?_;rintro e w4 ⟨rfl,he4,hc4,hF4⟩;have hsz4:=hF4.size;have ho4:=hF4.own HO3.out (fun b h e=>by injection h with h;simp only at h;omega);have k7':=row_cell ho4 HL2.out hj2 (j:=7) (by omega) (u:=.slice Ae x.els.length ce) (by rw [hgj2];rfl);have f7':=ho4.frozenAt (j * 8 + 7);have hid7:=Lib.hid (setCell_id k7');have hFw4:=HFW3.out.trans (hF4.mono (T:=(fun b=>b = g ∨ (lo ≤ b ∧ b < hi))) (fun b _ e=>by omega));have hF14:=HF3.out.trans (hF4.mono (T:=(fun b=>b = g ∨ b = gb ∨ (m1 ≤ b ∧ b < n))) (fun b _ e=>by omega));have hb4:=HB3.out.fr hF4 (fun b h1 h2 e=>by omega) (by omega);have hfx : fixS ps x (fixL ps (ss.take j) s).2 = (x.upd x.name bf.1 ef.1,ef.2):=by
      rw [fixS_eq,HFN.out];simp only;rw [hbf,hef]
     have hst4:=hre (fun b=>b = g ∨ b = gb ∨ (m1 ≤ b ∧ b < n)) w4 x.name bf.1 ef.1 hF14 (fun q h1 h2 e=>by omega) (by omega) (.inl rfl) hb4 he4;have hE4:=hupd (fun b=>b = g ∨ b = gb ∨ (m1 ≤ b ∧ b < n)) w4 _ _ hF14 (fun q h1 h2 h3 h4 e=>by omega) (by omega) hst4;have hFIN : StsIn w4 lo hi (mixL ps ss s (j + 1)) (.slice (some ⟨gb,0,none⟩) ss.length c0):=by
      rw [HMS.out,hfx];refine .inr ⟨gb,c0,_,by rw [List.length_set,HML.out],hgb1,hgb2,?_,hE4⟩;rw [List.length_set,HML.out];exact ho4
     have hCUR : CurAt w4 g (fixL ps (ss.take (j + 1)) s).2:=by
      rw [fixL_take hlt,HXE.out,hfx];exact hc4
     have HFIN:=Lib.hid hFIN;have HCUR:=Lib.hid hCUR;have HFW4:=Lib.hid hFw4;clear k6' k7 f6' hFw4 hF14 hb4 he4 hst4 hE4 hFIN hCUR hc4 hF4 ho4 hfx;go_wp2_with fail
     go_roundg (ss.length - (j + 1))
     case measure=>omega
     case rel=>rw [hid7.out];exact ⟨j + 1,by omega,rfl,by go_num,HFIN.out,HCUR.out,HFW4.out⟩
  ·
   obtain rfl : j = ss.length:=by omega
   have hS2 : StsIn wr lo hi (fixL ps ss s).1 (.slice A0 ss.length c0):=by
    unfold mixL at hS
    rwa [List.take_length,List.drop_length,List.append_nil] at hS
   rw [List.take_length] at hcu;clear hS;go_wp2_with fail
   go_ret
   exact ⟨rfl,hS2,hcu,hF⟩
theorem l05Fix_any (ps : List ByteArray) (hp1 : 1 ≤ ps.length) (hp2 : ps.length ≤ 256) (ss : List St) (hn : St.cntL ss ≤ 1048576) : FixSaid ps ss:=by
 have : ∀ (n : Nat) (ss : List St),St.cntL ss < n → St.cntL ss ≤ 1048576 → FixSaid ps ss:=by
  intro n;induction n with
  | zero=>intro ss h;omega
  | succ n ih=>intro ss h hn;exact l05Fix_of ps hp1 hp2 ss hn fun zs hz=>ih zs (by omega) (by omega)
 exact this _ ss (Nat.lt_succ_self _) hn
end Go.Proofs.Ytkgoajnnkimkaaa
