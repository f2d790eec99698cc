/- Contract of the reference's l05Prog: a drawn program. -/
import Derived.Test.YtkgoajnnkimkaaaH11
import Derived.Test.YtkgoajnnkimkaaaH12
import Derived.Test.YtkgoajnnkimkaaaH13
import Derived.Test.YtkgoajnnkimkaaaB2
import Derived.Test.YtkgoajnnkimkaaaC1
import Derived.Test.YtkgoajnnkimkaaaQ1
import Derived.Test.YtkgoajnnkimkaaaQ2
import Derived.Test.YtkgoajnnkimkaaaQ3
import Derived.Deep.CutRange
set_option linter.unusedSimpArgs false
set_option linter.unusedVariables false
set_option maxRecDepth 100000
set_option maxHeartbeats 16000000
namespace Go.Proofs.Ytkgoajnnkimkaaa
open Go.ChangeShapes Go.WideShapes Go.ChangeAt Go.RowKit
def BodyIs (wr : World) (g : Nat) (X : List St × Cr) (v : Value) (W : World) : Prop:=∃ A c,v = .slice A X.1.length c ∧ StsIn W wr.heap.size W.heap.size X.1 (.slice A X.1.length c) ∧ Went wr g X.2 W
theorem Fr.past {S T : Nat → Prop} {w w1 w2 : World} (h : Fr S w w1) (k : Fr T w1 w2) (hT : ∀ b,b < w.heap.size → T b → S b) : Fr S w w2 :=
 ⟨k.os.trans h.os,k.tape.trans h.tape,k.output.trans h.output,Nat.le_trans h.size k.size,fun b hb h1=>(k.block b (Nat.lt_of_lt_of_le hb h.size) fun h2=>h1 (hT b hb h2)).trans (h.block b hb h1)⟩
theorem sts_word {W2 w3 : World} {lo hi c gb : Nat} {k : Int} {x : ByteArray} {A : Option Addr} {body : List St} {cssb : List (List Value)} (hbe : EachIn W2 gb lo hi body cssb) (hg : Fr (fun q => hi ≤ q) W2 w3) (hh : hi ≤ W2.heap.size)
  (ho : w3.ownsRow hi 106 8 (.slice A (1 + body.length) c) (1 + body.length) ([.int .i64 k,.string x,.int .i64 0,.int .i64 0,.string ⟨#[]⟩,.slice none 0 0,.slice none 0 0,.slice none 0 0] ++ cssb.flatten)) : StsIn w3 lo w3.heap.size (.word k x :: body) (.slice A (1 + body.length) c):=by
 have hle:=EachIn.le _ _ _ _ _ hbe;obtain ⟨g',rfl,h1,h2⟩:=own_someH ho (by omega);have el : (St.word k x :: body).length = 1 + body.length:=by rw [List.length_cons];omega
 have hb3:=EachIn.fr hg _ _ _ _ _ hbe (fun q q1 q2 q3 e=>by omega) hh;refine .inr ⟨g',c,[.int .i64 k,.string x,.int .i64 0,.int .i64 0,.string ⟨#[]⟩,.slice none 0 0,.slice none 0 0,.slice none 0 0] :: cssb,by rw [el],by omega,h2,?_,?_⟩
 · rw [el];exact own_mono (by rw [List.flatten_cons];exact ho) hle
 · exact EachIn.mono _ _ _ _ _ _ _ (EachIn.app [.word k x] body _ _ lo hi [_] _ (EachIn.one (word_in _ lo k x) (Nat.le_refl _) (Nat.le_refl _) (Nat.le_refl _) (.inr (by omega))) (EachIn.high _ _ _ _ _ _ hb3 h1)) (Nat.le_refl _) (by omega)
theorem sts_skip {W : World} {lo : Nat} (h : lo ≤ W.heap.size) : StsIn (W.alloc (.cells #[.int .i64 8,.string ⟨#[]⟩,.int .i64 0,.int .i64 0,.string ⟨#[]⟩,.slice none 0 0,.slice none 0 0,.slice none 0 0] 106)) lo (W.alloc (.cells #[.int .i64 8,.string ⟨#[]⟩,.int .i64 0,.int .i64 0,.string ⟨#[]⟩,.slice none 0 0,.slice none 0 0,.slice none 0 0] 106)).heap.size [.skip] (.slice (some ⟨W.heap.size,0,none⟩) 1 1):=by
 have hlit:=World.ownsRow_lit (base:=lo) (e := 106) (size:=8) W #[.int .i64 8,.string ⟨#[]⟩,.int .i64 0,.int .i64 0,.string ⟨#[]⟩,.slice none 0 0,.slice none 0 0,.slice none 0 0] 1 h (by unfold maxLen;omega) rfl;have hs : (W.alloc (.cells #[.int .i64 8,.string ⟨#[]⟩,.int .i64 0,.int .i64 0,.string ⟨#[]⟩,.slice none 0 0,.slice none 0 0,.slice none 0 0] 106)).heap.size = W.heap.size + 1:=by simp
 refine .inr ⟨W.heap.size,1,[[.int .i64 8,.string ⟨#[]⟩,.int .i64 0,.int .i64 0,.string ⟨#[]⟩,.slice none 0 0,.slice none 0 0,.slice none 0 0]],rfl,h,by omega,by simpa using hlit,?_⟩;exact EachIn.one (m:=lo) (n:=lo) (by simp only [StIn];rfl) (Nat.le_refl _) (Nat.le_refl _) (by omega) (.inr h)
theorem listD_len (d : Nat) (s : Cr) : (listD d s).1.length ≤ 4:=loopD_len _ _ _ _
theorem cutD_len (l : List St) : (cutD l).length ≤ 50:=by
 unfold cutD;split
 · simp
 · rename_i h;have:=cntL_len l;omega
theorem guardD_len (l : List St) (s : Cr) : (guardD l s).1.length ≤ l.length + 3:=by
 unfold guardD;simp only;split
 · simp
 · split <;> simp
theorem onceG_len (l : List St) (s : Cr) : (onceGuardD l s).1.length ≤ l.length + 3:=by
 unfold onceGuardD;split
 · exact guardD_len _ _
 · simp
theorem loopD_cnt {f : Cr → St × Cr} {m : Nat} (h : ∀ s,St.cnt (f s).1 ≤ m) : ∀ (n i : Nat) (s : Cr),St.cntL (loopD f n i s).1 ≤ n * m:=by
 intro n;induction n with
 | zero=>intro i s;simp [loopD,St.cntL]
 | succ n ih =>
  intro i s;unfold loopD;split
  · have h1:=h (belowD 4 s).2;have h2:=ih (i + 1) (f (belowD 4 s).2).2;simp only [St.cntL];rw [Nat.succ_mul];omega
  · simp [St.cntL]
theorem simpleD_cnt (k : Nat) (s : Cr) : St.cnt (simpleD k s).1 = 1:=by
 unfold simpleD
 repeat' split
 all_goals simp [St.cnt]
theorem stmtD_cnt : ∀ (d : Nat) (s : Cr),St.cnt (stmtD d s).1 ≤ 9 ^ d:=by
 intro d;induction d with
 | zero=>intro s;rw [stmtD_zero,simpleD_cnt];simp
 | succ d ih =>
  intro s;have hl : ∀ s,St.cntL (loopD (stmtD d) 4 0 s).1 ≤ 4 * 9 ^ d:=fun s=>loopD_cnt ih 4 0 s;have hp : 1 ≤ 9 ^ d:=Nat.one_le_pow _ _ (by omega);have e : 9 ^ (d + 1) = 9 ^ d * 9:=Nat.pow_succ _ _;unfold stmtD;simp only;generalize belowD 14 s = k;generalize hL : loopD (stmtD d) 4 0 = L at hl;split
  · rw [simpleD_cnt];omega
  ·
   generalize termD 1 = T;split
   · simp only [St.cnt];have:=hl (T k.2).2;omega
   ·
    generalize belowD 2 = o;split
    · simp only [St.cnt];have h1:=hl (T k.2).2;have h2:=hl (o (L (T k.2).2).2).2;omega
    · simp only [St.cnt,St.cntL];have h1:=hl (T k.2).2;omega
theorem listD_cnt (d : Nat) (s : Cr) : St.cntL (listD d s).1 ≤ 4 * 9 ^ d:=loopD_cnt (stmtD_cnt d) 4 0 s
theorem guardD_cnt (l : List St) (s : Cr) : St.cntL (guardD l s).1 ≤ St.cntL l + 3:=by
 unfold guardD;simp only;split
 · simp [St.cntL,St.cnt,cntL_app];omega
 · split <;> (simp [St.cntL,St.cnt,cntL_app];omega)
theorem procB_cnt (ps : List ByteArray) (j : Nat) (l : List St) (s : Cr) : St.cntL (headD ps j (onceGuardD (cutD l) s).1 (onceGuardD (cutD l) s).2).1 ≤ 54:=by
 have h1 : St.cntL (cutD l) ≤ 50:=by
  unfold cutD;split
  · simp [St.cntL,St.cnt]
  · omega
 have h2 : St.cntL (onceGuardD (cutD l) s).1 ≤ 53:=by
  unfold onceGuardD;split
  · have:=guardD_cnt (cutD l) (belowD 2 s).2;omega
  · simp only;omega
 generalize onceGuardD (cutD l) s = G at h2;unfold headD;split
 ·
  split
  · simp only [St.cntL,St.cnt];omega
  · simp only;omega
 · simp only;omega
theorem cut_yes {l : List St} (h : 50 < St.cntL l) : cutD l = [.skip]:=if_pos h
theorem cut_no {l : List St} (h : ¬ 50 < St.cntL l) : cutD l = l:=if_neg h
theorem once_yes {l : List St} {s : Cr} (h : (belowD 2 s).1 = 0) : onceGuardD l s = guardD l (belowD 2 s).2:=if_pos h
theorem once_no {l : List St} {s : Cr} (h : ¬ (belowD 2 s).1 = 0) : onceGuardD l s = (l,(belowD 2 s).2):=if_neg h
def headC (i : Nat) (s : Cr) : Cr:=if i = 0 then (belowD 2 s).2 else s
theorem head_yes {ps : List ByteArray} {i : Nat} {l : List St} {s : Cr} (h : i = 0 ∧ (belowD 2 s).1 = 0) : headD ps i l s = (.word 5 ((ps[1]?).getD ⟨#[]⟩) :: l,headC i s):=by
 unfold headD headC;rw [if_pos h.1,if_pos h.2,if_pos h.1]
theorem head_no {ps : List ByteArray} {i : Nat} {l : List St} {s : Cr} (h : ¬ (i = 0 ∧ (belowD 2 s).1 = 0)) : headD ps i l s = (l,headC i s):=by
 unfold headD headC;by_cases h0 : i = 0
 · rw [if_pos h0,if_neg (fun h1=>h ⟨h0,h1⟩),if_pos h0]
 · rw [if_neg h0,if_neg h0]
structure PHold (w : World) (g : Nat) (s : Cr) (A : Option Addr) (j c gp hi : Nat) (ls : List (ByteArray × List St)) (css : List (List Value)) (W : World) : Prop where
 went : Went w g s W
 res : W.heap[w.heap.size]? = some (.cells #[.slice none 0 0,.slice none 0 0,.slice none 0 0] 83)
 box : W.heap[w.heap.size + 1 + 1 + 1]? = some (.cells #[.slice (some ⟨w.heap.size + 1,0,none⟩) 4 4,.slice (some ⟨w.heap.size + 1 + 1,0,none⟩) 3 3,.slice A j c] 83)
 rg : Rd W (w.heap.size + 5) (some ⟨w.heap.size + 1,0,none⟩) (globL.map sv)
 rl : Rd W (w.heap.size + 5) (some ⟨w.heap.size + 1 + 1,0,none⟩) (lockL.map sv)
 rp : Rd W (w.heap.size + 5) (some ⟨w.heap.size + 1 + 1 + 1 + 1,0,none⟩) (procL4.map sv)
 own : W.ownsRow (w.heap.size + 5) 100 2 (.slice A j c) j css.flatten
 gpb : ∀ b,(Value.slice A j c).ownBlock = some b → b = gp
 gplt : gp < hi
 low : w.heap.size + 5 ≤ hi
 high : hi ≤ W.heap.size
 each : PrsIn W gp (w.heap.size + 5) hi ls css
 len : ls.length = j
 hg : g < w.heap.size
section
variable {w W W' w3 : World} {g j c gp hi : Nat} {s s' : Cr} {A : Option Addr} {ls : List (ByteArray × List St)} {css : List (List Value)}
theorem PHold.to (h : PHold w g s A j c gp hi ls css W) (k : Went W g s' W') : PHold w g s' A j c gp hi ls css W':=by
 have hl:=h.low;have hh:=h.high;have hg:=h.hg;have hs:=k.2.size;have hb : ∀ b o,w.heap.size ≤ b → W.heap[b]? = some o → W'.heap[b]? = some o:=fun b o h1 h2=>(k.2.block b (Array.getElem?_eq_some_iff.1 h2).1 (by omega)).trans h2;refine ⟨h.went.trans k,hb _ _ (Nat.le_refl _) h.res,hb _ _ (by omega) h.box,h.rg.fr k.2 (fun ad e=>by injection e with e;subst e;simp only;omega),h.rl.fr k.2 (fun ad e=>by injection e with e;subst e;simp only;omega),h.rp.fr k.2 (fun ad e=>by injection e with e;subst e;simp only;omega),?_,h.gpb,h.gplt,h.low,by omega,PrsIn.fr k.2 _ _ _ _ _ h.each (fun b q1 q2 q3 e=>by omega) hh,h.len,h.hg⟩;exact k.2.own h.own (fun b e q=>by have:=(h.own.lt b e).1;omega)
theorem PHold.start (hc : CurAt w g s) : PHold w g s none 0 0 w.heap.size (w.heap.size + 5) [] []
  (((((w.alloc (.cells #[.slice none 0 0,.slice none 0 0,.slice none 0 0] 83)).alloc (.cells #[.string ⟨#[120]⟩,.string ⟨#[121]⟩,.string ⟨#[122]⟩,.string ⟨#[117]⟩] 9)).alloc (.cells #[.string ⟨#[97]⟩,.string ⟨#[98]⟩,.string ⟨#[109]⟩] 9)).alloc
   (.cells #[.slice (some ⟨w.heap.size + 1,0,none⟩) 4 4,.slice (some ⟨w.heap.size + 1 + 1,0,none⟩) 3 3,.slice none 0 0] 83)).alloc (.cells #[.string ⟨#[109,97,105,110]⟩,.string ⟨#[112]⟩,.string ⟨#[113]⟩,.string ⟨#[114]⟩] 9)):=by
 generalize hO0 : Obj.cells #[.slice none 0 0,.slice none 0 0,.slice none 0 0] 83 = O0;generalize hO1 : Obj.cells #[.string ⟨#[120]⟩,.string ⟨#[121]⟩,.string ⟨#[122]⟩,.string ⟨#[117]⟩] 9 = O1;generalize hO2 : Obj.cells #[.string ⟨#[97]⟩,.string ⟨#[98]⟩,.string ⟨#[109]⟩] 9 = O2;generalize hO3 : Obj.cells #[.slice (some ⟨w.heap.size + 1,0,none⟩) 4 4,.slice (some ⟨w.heap.size + 1 + 1,0,none⟩) 3 3,.slice none 0 0] 83 = O3;generalize hO4 : Obj.cells #[.string ⟨#[109,97,105,110]⟩,.string ⟨#[112]⟩,.string ⟨#[113]⟩,.string ⟨#[114]⟩] 9 = O4;have s1 : (w.alloc O0).heap.size = w.heap.size + 1:=by simp
 have s2 : ((w.alloc O0).alloc O1).heap.size = w.heap.size + 1 + 1:=by simp
 have s3 : (((w.alloc O0).alloc O1).alloc O2).heap.size = w.heap.size + 1 + 1 + 1:=by simp
 have s4 : ((((w.alloc O0).alloc O1).alloc O2).alloc O3).heap.size = w.heap.size + 1 + 1 + 1 + 1:=by simp
 have s5 : (((((w.alloc O0).alloc O1).alloc O2).alloc O3).alloc O4).heap.size = w.heap.size + 5:=by simp
 have b1:=below_alloc0 (w.alloc O0) O1;have b2:=below_alloc0 ((w.alloc O0).alloc O1) O2;have b3:=below_alloc0 (((w.alloc O0).alloc O1).alloc O2) O3;have b4:=below_alloc0 ((((w.alloc O0).alloc O1).alloc O2).alloc O3) O4;have hF : Below w.heap.size w (((((w.alloc O0).alloc O1).alloc O2).alloc O3).alloc O4):=below_trans' (below_trans' (below_trans' (below_trans' (below_alloc0 w O0) b1) b2) b3) b4;have e0 : (((((w.alloc O0).alloc O1).alloc O2).alloc O3).alloc O4).heap[w.heap.size]? = some O0 :=
  (b4.block _ (by omega)).trans ((b3.block _ (by omega)).trans ((b2.block _ (by omega)).trans ((b1.block _ (by omega)).trans (heap_alloc_new w O0))))
 have e1 : (((((w.alloc O0).alloc O1).alloc O2).alloc O3).alloc O4).heap[w.heap.size + 1]? = some O1:=by
  have:=heap_alloc_new (w.alloc O0) O1;rw [s1] at this;exact (b4.block _ (by omega)).trans ((b3.block _ (by omega)).trans ((b2.block _ (by omega)).trans this))
 have e2 : (((((w.alloc O0).alloc O1).alloc O2).alloc O3).alloc O4).heap[w.heap.size + 1 + 1]? = some O2:=by
  have:=heap_alloc_new ((w.alloc O0).alloc O1) O2;rw [s2] at this;exact (b4.block _ (by omega)).trans ((b3.block _ (by omega)).trans this)
 have e3 : (((((w.alloc O0).alloc O1).alloc O2).alloc O3).alloc O4).heap[w.heap.size + 1 + 1 + 1]? = some O3:=by
  have:=heap_alloc_new (((w.alloc O0).alloc O1).alloc O2) O3;rw [s3] at this;exact (b4.block _ (by omega)).trans this
 have e4 : (((((w.alloc O0).alloc O1).alloc O2).alloc O3).alloc O4).heap[w.heap.size + 1 + 1 + 1 + 1]? = some O4:=by
  have:=heap_alloc_new ((((w.alloc O0).alloc O1).alloc O2).alloc O3) O4;rw [s4] at this;exact this
 clear b1 b2 b3 b4;generalize (((((w.alloc O0).alloc O1).alloc O2).alloc O3).alloc O4) = V at *;have hrd : ∀ (b : Nat) (cs : Array Value) (t : TypeId) (xs : List Value),V.heap[b]? = some (.cells cs t) → cs.toList = xs → b < w.heap.size + 5 → Rd V (w.heap.size + 5) (some ⟨b,0,none⟩) xs:=by
  intro b cs t xs h1 h2 h3 i u hu;refine ⟨_,rfl,h3,?_⟩;rw [add_mk,cell_of_row _ _ _ _ _ _ h1];subst h2;simpa using hu
 subst hO0 hO1 hO2 hO3 hO4;exact ⟨⟨hc.below hF,Fr.of_below hF⟩,e0,e3,hrd _ _ _ _ e1 rfl (by omega),hrd _ _ _ _ e2 rfl (by omega),hrd _ _ _ _ e4 rfl (by omega),World.ownsRow_nil _ _ _ _,fun b hb=>by simp [Value.ownBlock] at hb,by omega,Nat.le_refl _,by omega,⟨rfl,Nat.le_refl _⟩,rfl,hc.lt⟩
theorem PHold.up (h : PHold w g s A j c gp hi ls css W) {hi' : Nat} (h1 : hi ≤ hi') (h2 : hi' ≤ W.heap.size) : PHold w g s A j c gp hi' ls css W:=by
 have h3:=h.low;have h4:=h.gplt;exact ⟨h.went,h.res,h.box,h.rg,h.rl,h.rp,h.own,h.gpb,by omega,by omega,h2,PrsIn.mono _ _ _ _ _ _ _ h.each (Nat.le_refl _) h1,h.len,h.hg⟩
theorem PHold.facts (h : PHold w g s A j c gp hi ls css W) : W.cell? ⟨w.heap.size + 1 + 1 + 1,2,none⟩ = some (.slice A j c) ∧ (∀ i,W.frozen? ⟨w.heap.size + 1 + 1 + 1,i,none⟩ = false) ∧ (∀ i (hi : i < procL4.length),W.cell? ⟨w.heap.size + 1 + 1 + 1 + 1,i,none⟩ = some (.string procL4[i])):=by
 refine ⟨(row_facts h.box).1 2 _ rfl,fun i=>(row_facts h.box).2 i,fun i hi=>?_⟩;obtain ⟨ad,e,_,hc⟩:=h.rp.str hi;injection e with e;subst e
 rwa [add_mk] at hc
theorem PHold.prog (h : PHold w g s A j c gp hi ls css W) (hF : Fr (fun b=>b = w.heap.size) W W') {nm : List ByteArray} {bs : List (List St)} (hl : ls = nm.zip bs) (hnb : nm.length = bs.length) : ProgAt W' (some ⟨w.heap.size + 1,0,none⟩) (some ⟨w.heap.size + 1 + 1,0,none⟩) A nm bs:=by
 have h1:=h.low;have h2:=h.high;have h3:=hF.size;refine ⟨(h.rg.fr hF (fun ad e=>by injection e with e;subst e;simp only;omega)).mono (by omega),(h.rl.fr hF (fun ad e=>by injection e with e;subst e;simp only;omega)).mono (by omega),hnb,fun i hi1 hi2=>?_⟩;have hjl:=h.len;have hil : i < ls.length:=by rw [hl,List.length_zip];omega
 obtain ⟨v,m,n,e1,e2,q1,q2,q3,q4⟩:=prs_get _ _ _ _ _ h.each i hil;have eli : ls[i] = (nm[i],bs[i]):=by simp only [hl,List.getElem_zip]
 rw [eli] at e1 q4;obtain ⟨gA,rfl,hg1,hg2⟩:=own_someH h.own (by omega);obtain ⟨ad,ea,hb1,hc1⟩:=own_rd h.own _ _ e1;obtain ⟨ad2,ea2,hb2,hc2⟩:=own_rd h.own _ _ e2;injection ea with ea;injection ea2 with ea2;subst ea ea2;refine ⟨_,v,m,n,rfl,by simp only;omega,hF.cell hc1 (by rw [block_of_add];simp only;omega),hF.cell hc2 (by rw [block_of_add];simp only;omega),q2,by omega,q4.fr hF (fun b q5 q6=>by omega) (by omega)⟩
theorem PHold.more (h : PHold w g s A j c gp hi ls css W) {m n : Nat} {nm : ByteArray} {bd : List St} {v : Value} (hb : StsIn W m n bd v) (h1 : hi ≤ m) (h2 : m ≤ n) (h3 : n ≤ W.heap.size) {A' : Option Addr} {c' : Nat}
  (ho : w3.ownsRow (w.heap.size + 5) 100 2 (.slice A' (j + 1) c') (j + 1) (css.flatten ++ [.string nm,v])) (hgr : W.grownBy w3 (Value.slice A j c).ownBlock)
  (hv : (Value.slice A' (j + 1) c').ownBlock = (Value.slice A j c).ownBlock ∨ (Value.slice A' (j + 1) c').ownBlock = some (W.heap.size + 1)) :
  ∃ gp',PHold w g s A' (j + 1) c' gp' (w3.setCell ⟨w.heap.size + 1 + 1 + 1,2,none⟩ (.slice A' (j + 1) c')).heap.size (ls ++ [(nm,bd)]) (css ++ [[.string nm,v]]) (w3.setCell ⟨w.heap.size + 1 + 1 + 1,2,none⟩ (.slice A' (j + 1) c')):=by
 have hl:=h.low;have hh:=h.high;have hg:=h.hg;have hgp:=h.gplt;have hs:=hgr.size;obtain ⟨g',rfl,hg1,hg2⟩:=own_someH ho (by omega);have hF1 : Fr (fun b=>(Value.slice A j c).ownBlock = some b) W w3:=(Fr.refl _ W).grown hgr (fun b e _=>e);have hF2 : Fr (fun b=>(Value.slice A j c).ownBlock = some b ∨ b = w.heap.size + 1 + 1 + 1) W (w3.setCell ⟨w.heap.size + 1 + 1 + 1,2,none⟩ (.slice (some ⟨g',0,none⟩) (j + 1) c')) :=
  (hF1.mono (fun b _ e=>.inl e)).set (a:=⟨w.heap.size + 1 + 1 + 1,2,none⟩) (fun _=>.inr rfl) _
 have hob : ∀ b,(Value.slice A j c).ownBlock = some b → w.heap.size + 5 ≤ b:=fun b e=>(h.own.lt b e).1;have hsz : (w3.setCell ⟨w.heap.size + 1 + 1 + 1,2,none⟩ (.slice (some ⟨g',0,none⟩) (j + 1) c')).heap.size = w3.heap.size:=World.size_setCell ..;have hbx3:=hF1.block (w.heap.size + 1 + 1 + 1) (by omega) (fun e=>by have:=hob _ e;omega);have hnS : ∀ b,b < w.heap.size + 5 → b ≠ w.heap.size + 1 + 1 + 1 → ¬ ((Value.slice A j c).ownBlock = some b ∨ b = w.heap.size + 1 + 1 + 1):=fun b q1 q2 e=>e.elim (fun e=>by have:=hob _ e;omega) q2;have hW : Went w g s (w3.setCell ⟨w.heap.size + 1 + 1 + 1,2,none⟩ (.slice (some ⟨g',0,none⟩) (j + 1) c')):=by
  refine ⟨h.went.1.fr hF2 (fun b q e=>e.elim (fun e=>by have:=hob _ e;omega) (fun e=>by omega)),hF2.os.trans h.went.2.os,hF2.tape.trans h.went.2.tape,hF2.output.trans h.went.2.output,Nat.le_trans h.went.2.size hF2.size,fun b q1 q2=>(hF2.block b (by omega) (hnS b (by omega) (by omega))).trans (h.went.2.block b q1 q2)⟩
 have hown4 : (w3.setCell ⟨w.heap.size + 1 + 1 + 1,2,none⟩ (.slice (some ⟨g',0,none⟩) (j + 1) c')).ownsRow (w.heap.size + 5) 100 2 (.slice (some ⟨g',0,none⟩) (j + 1) c') (j + 1) (css ++ [[.string nm,v]]).flatten:=by
  have hf : Fr (fun b=>b = w.heap.size + 1 + 1 + 1) w3 (w3.setCell ⟨w.heap.size + 1 + 1 + 1,2,none⟩ (.slice (some ⟨g',0,none⟩) (j + 1) c')):=Fr.set (S:=fun b=>b = w.heap.size + 1 + 1 + 1) (Fr.refl _ w3) (a:=⟨w.heap.size + 1 + 1 + 1,2,none⟩) (fun _=>rfl) _;rw [List.flatten_append];refine hf.own (by simpa using ho) (fun b e q=>?_);injection e with e;simp only at e;omega
 have hE : ∃ gp',gp' < (w3.setCell ⟨w.heap.size + 1 + 1 + 1,2,none⟩ (.slice (some ⟨g',0,none⟩) (j + 1) c')).heap.size ∧ gp' = g' ∧ PrsIn (w3.setCell ⟨w.heap.size + 1 + 1 + 1,2,none⟩ (.slice (some ⟨g',0,none⟩) (j + 1) c')) gp' (w.heap.size + 5) (w3.setCell ⟨w.heap.size + 1 + 1 + 1,2,none⟩ (.slice (some ⟨g',0,none⟩) (j + 1) c')).heap.size (ls ++ [(nm,bd)]) (css ++ [[.string nm,v]]):=by
  have p1:=PrsIn.fr hF2 _ _ _ _ _ h.each (fun b q1 q2 q3 e=>e.elim (fun e=>q3 (h.gpb b e)) (fun e=>by omega)) hh;have p2 : StsIn (w3.setCell ⟨w.heap.size + 1 + 1 + 1,2,none⟩ (.slice (some ⟨g',0,none⟩) (j + 1) c')) m n bd v:=hb.fr hF2 (fun b q1 q2 e=>e.elim (fun e=>by have:=h.gpb b e;omega) (fun e=>by omega)) h3;refine ⟨g',by omega,rfl,?_⟩;rcases hv with e | e
  · have e2:=h.gpb g' e.symm;exact PrsIn.snoc (x:=(nm,bd)) p2 h2 (.inl (by omega)) _ _ hi _ _ (by rw [e2] at p1 ⊢;exact p1) h1 (by omega)
  ·
   have e2 : g' = W.heap.size + 1:=by injection e
   exact PrsIn.snoc (x:=(nm,bd)) p2 h2 (.inr (by omega)) _ _ hi _ _ (PrsIn.high _ _ _ _ _ _ p1 (by omega)) h1 (by omega)
 obtain ⟨gp',q1,rfl,q2⟩:=hE;refine ⟨gp',hW,(hF2.block _ (by omega) (hnS _ (by omega) (by omega))).trans h.res,?_,h.rg.fr hF2 (fun ad e=>by injection e with e;subst e;exact hnS _ (by simp only;omega) (by simp only;omega)),h.rl.fr hF2 (fun ad e=>by injection e with e;subst e;exact hnS _ (by simp only;omega) (by simp only;omega)),h.rp.fr hF2 (fun ad e=>by injection e with e;subst e;exact hnS _ (by simp only;omega) (by simp only;omega)),hown4,fun b e=>by injection e with e;exact e.symm,q1,by omega,Nat.le_refl _,q2,by simp [h.len],h.hg⟩;have:=set_row (hbx3.trans h.box) 2 (.slice (some ⟨gp',0,none⟩) (j + 1) c');simpa using this
end
theorem l05Prog_any (g : Nat) (s : Cr) (w : World) (hc : CurAt w g s) : Calls Try.prog 50 #[.pointer (some ⟨g,0,none⟩)] w (ProgDrawn w g s):=by
 have hgw:=hc.lt;have hx3:=belowD_lt (n:=3) s (by omega);have HB:=Lib.hid (fun W (hc : CurAt W g s)=>(show Calls Try.prog 36 #[.pointer (some ⟨g,0,none⟩),.int .i64 3] W fun e w'=>e = .returned (.int .i64 (((belowD 3 s).1 : Nat) : Int)) ∧ Went W g (belowD 3 s).2 w' from l01Below_any 3 g s W hc (by omega) (by omega)));have HL2:=Lib.hid (fun s W (hc : CurAt W g s)=>(show Calls Try.prog 62 #[.pointer (some ⟨g,0,none⟩),.int .i64 2] W (StsDrawn W g (listD 2 s)) from l04List_any 2 (by omega) g s W hc));have HL1:=Lib.hid (fun s W (hc : CurAt W g s)=>(show Calls Try.prog 62 #[.pointer (some ⟨g,0,none⟩),.int .i64 1] W (StsDrawn W g (listD 1 s)) from l04List_any 1 (by omega) g s W hc));have HON:=Lib.hid (fun s W (hc : CurAt W g s)=>(show Calls Try.prog 64 #[.pointer (some ⟨g,0,none⟩),.int .i64 2] W fun e w'=>∃ b : Bool,e = .returned (.bool b) ∧ (b = true ↔ (belowD 2 s).1 = 0) ∧ Went W g (belowD 2 s).2 w' from
  (l01Once_any 2 g s W hc (by omega) (by omega)).mono fun e w' h=>⟨_,h.1,decide_eq_true_iff,h.2⟩))
 have HST:=Lib.hid (PHold.start hc);have HNM:=Lib.hid (show namesD s = procL4.take (2 + (belowD 3 s).1) from rfl);have HBD:=Lib.hid (show bodiesD s = (procsD (namesD s) (namesD s).length (belowD 3 s).2).1 from rfl);have hnl : (namesD s).length = 2 + (belowD 3 s).1:=by rw [HNM.out];simp [procL4];omega
 have HNL:=Lib.hid hnl;clear hc hnl
 go_enter Try.func50, Try.ntmps50
 go_wp2_with fail
 refine (HB.out _ HST.out.went.1).mono ?_;rintro e w1 ⟨rfl,hw1⟩;have HP1:=Lib.hid (HST.out.to hw1);clear HST hw1;go_wp2_with fail
 go_loopg [5,6] (2 + (belowD 3 s).1) (fun l i bd wr=>∃ (j : Nat) (A : Option Addr) (c gp : Nat) (css : List (List Value)),j ≤ 2 + (belowD 3 s).1 ∧ l = 2 + (belowD 3 s).1 - j ∧ i = .int .i64 j ∧
  PHold w g (procsD (namesD s) j (belowD 3 s).2).2 A j c gp wr.heap.size (((namesD s).take j).zip (procsD (namesD s) j (belowD 3 s).2).1) css wr)
 case atStart=>exact ⟨0,none,0,w.heap.size,[],by omega,by omega,rfl,by simpa [procsD] using HP1.out.up HP1.out.high (Nat.le_refl _)⟩
 case round =>
  clear HP1;obtain ⟨j,A,c,gp,css,hj,rfl,rfl,hP⟩:=hrel;generalize hps : procsD (namesD s) j (belowD 3 s).2 = PS at hP;have HPS:=Lib.hid hps;have HP:=Lib.hid hP;have hbase:=hP.low;clear hps hP;by_cases hlt : j < 2 + (belowD 3 s).1
  ·
   have z1 : (j : Int) < 2 + (((belowD 3 s).1 : Nat) : Int):=by omega
   go_wp2_with fail
   refine (HL2.out _ wr HP.out.went.1).mono ?_;rintro e w2 ⟨v2,rfl,hs2,hw2⟩;obtain ⟨A2,c2,rfl⟩:=hs2.form;have hlen2:=listD_len 2 PS.2;have hcnt2:=listD_cnt 2 PS.2;have hsz2:=hw2.2.size;generalize ha : listD 2 PS.2 = a at hs2 hw2 hlen2 hcnt2 ⊢;have HA:=Lib.hid ha;have HS2:=Lib.hid hs2;have HW2:=Lib.hid hw2;clear ha hs2 hw2;go_wp2_with fail
   refine (HL1.out _ w2 HW2.out.1).mono ?_;rintro e w3 ⟨v3,rfl,hs3,hw3⟩;obtain ⟨A3,c3,rfl⟩:=hs3.form;have hlen3:=listD_len 1 a.2;have hcnt3:=listD_cnt 1 a.2;have hsz3:=hw3.2.size;generalize hb : listD 1 a.2 = b at hs3 hw3 hlen3 hcnt3 ⊢;have HBB:=Lib.hid hb;clear hb;obtain ⟨cssa,ga,hoa,hea,hga⟩:=(HS2.out.fr hw3.2 (fun q h1 h2 e=>by omega) (Nat.le_refl _)).open hsz2;obtain ⟨cssb,gb,hob,heb,hgb⟩:=hs3.open hsz3;have honb:=each_one _ _ _ _ _ heb;have hW3:=HW2.out.trans hw3;have HHA:=Lib.hid hea;have HHB:=Lib.hid heb;have HGA:=Lib.hid hga;have HW3:=Lib.hid hW3;clear hs3 hw3 hgb hea heb hW3 hga;go_wp2_with (at_builtin;refine append_sts rfl _ _ rfl hoa rfl rfl hob honb (by omega) (by omega) ?_;intro A4 c4 w4 ho4 hg4 hv4)
   have hsz4:=hg4.size;have hbd : StsIn w4 wr.heap.size w4.heap.size (a.1 ++ b.1) (.slice A4 (a.1.length + b.1.length) c4):=by
    have el : (a.1 ++ b.1).length = a.1.length + b.1.length:=List.length_append;have:=sts_app (A:=A4) (c:=c4) HHA.out HGA.out HHB.out (fun q e=>(HGA.out q e).2.2) (Nat.le_refl _) (by rw [el,List.flatten_append];exact ho4) hg4 (by rw [el];exact hv4)
    rwa [el] at this
   have hW4 : Went wr g b.2 w4:=⟨HW3.out.1.fr ((Fr.refl (fun q=>wr.heap.size ≤ q) _).grown hg4 (fun q e _=>(HGA.out q e).2.1)) (fun q q1 q2=>by omega),HW3.out.2.grown hg4 (fun q e q1=>absurd (HGA.out q e).2.1 (by omega))⟩
   have hcn:=l04Count_any (a.1 ++ b.1) (by rw [cntL_app];omega) wr.heap.size w4.heap.size _ 50 w4 hbd (by omega) (by omega) (Nat.le_refl _);have hc50:=(countL_ok (a.1 ++ b.1) 50 (by omega)).2.2;have HBD4:=Lib.hid hbd;have HW4:=Lib.hid hW4;have HCN:=Lib.hid hcn;have HC5:=Lib.hid hc50;clear hbd hW4 hcn hc50 ho4 hg4 hv4 hoa hob honb;refine HCN.out.mono ?_;rintro e w5 ⟨rfl,m5,rfl⟩;go_upto_if 28 with fail
   go_cut [6] from 15 to 63 (fun bd w'=>BodyIs wr g (cutD (a.1 ++ b.1),b.2) bd w')
   case first =>
    have hF5 : Fr (fun _=>False) w4 (w4.drewN m5):=(Fr.refl _ _).drewN _;by_cases h50 : 50 < St.cntL (a.1 ++ b.1)
    ·
     have z2 : countL (a.1 ++ b.1) 50 < 0:=HC5.out.2 (by omega);go_wp2_with fail
     go_meet
     refine ⟨_,_,by rw [cut_yes h50];rfl,by rw [cut_yes h50];exact sts_skip (by simpa using HW4.out.2.size),?_,?_⟩
     · exact (HW4.out.1.fr hF5 (fun _ _ h=>h)).below (below_alloc0 _ _)
     · exact (HW4.out.2.trans (hF5.mono (fun _ _ h=>h.elim))).trans (Fr.of_below (below_alloc0 _ _))
    ·
     have z2 : ¬ countL (a.1 ++ b.1) 50 < 0:=by have:=HC5.out.1 (by omega);omega
     go_wp2_with fail
     go_meet
     refine ⟨_,_,by rw [cut_no h50,List.length_append],by rw [cut_no h50,List.length_append];exact HBD4.out.fr hF5 (fun _ _ _ h=>h) (Nat.le_refl _),HW4.out.1.fr hF5 (fun _ _ h=>h),HW4.out.2.trans (hF5.mono (fun _ _ h=>h.elim))⟩
   case rest =>
    obtain ⟨A5,c5,rfl,hbd5,hw5⟩:=hcut;clear HBD4 HW4 HCN HC5 HHA HHB HGA HW3 HS2 HW2;obtain ⟨w5,rfl⟩ : ∃ w5 : World,w5 = wc:=⟨_,rfl⟩
    have hlen5:=cutD_len (a.1 ++ b.1);generalize hcd : cutD (a.1 ++ b.1) = bd5 at hbd5 hw5 hlen5 ⊢;have HCD:=Lib.hid hcd;clear hcd;have HBD5:=Lib.hid hbd5;have HW5:=Lib.hid hw5;clear hbd5 hw5;go_wp2_with fail
    refine (HON.out _ w5 HW5.out.1).mono ?_;rintro e w6 ⟨bo,rfl,hbo,hw6⟩;have hsz6:=hw6.2.size;have hsz5:=HW5.out.2.size;have hgd:=l05Guarded_any bd5 (by omega) wr.heap.size w5.heap.size _ g (belowD 2 b.2).2 w6 (HBD5.out.fr hw6.2 (fun q q1 q2 e=>by omega) (Nat.le_refl _)) hw6.1 (by omega) hsz5 hsz6;have HGD:=Lib.hid hgd;have HW6:=Lib.hid (HW5.out.trans hw6);have HB6:=Lib.hid ((HBD5.out.fr hw6.2 (fun q q1 q2 e=>by omega) (Nat.le_refl _)).mono (Nat.le_refl _) hsz6);clear hgd hw6;go_upto_if 32 with fail
    go_cut [6] from 15 to 63 (fun bd w'=>BodyIs wr g (onceGuardD bd5 b.2) bd w')
    case first =>
     cases bo
     ·
      have h0 : ¬ (belowD 2 b.2).1 = 0:=fun h=>by have:=hbo.2 h;simp at this
      go_wp2_with fail
      go_meet
      rw [once_no h0];exact ⟨_,_,rfl,HB6.out,HW6.out⟩
     ·
      have h0 : (belowD 2 b.2).1 = 0:=hbo.1 rfl;go_wp2_with fail
      refine HGD.out.mono ?_;rintro e w7 ⟨A7,c7,rfl,hb7,hw7⟩;go_wp2_with fail
      go_meet
      rw [once_yes h0];exact ⟨_,_,rfl,hb7,HW6.out.trans hw7⟩
    case rest =>
     obtain ⟨A7,c7,rfl,hbd7,hw7⟩:=hcut;clear HGD HW6 HB6 HW5 HBD5 hbo;obtain ⟨w7,rfl⟩ : ∃ w7 : World,w7 = wc:=⟨_,rfl⟩
     have hlen7:=onceG_len bd5 b.2;generalize hgd : onceGuardD bd5 b.2 = G at hbd7 hw7 hlen7 ⊢;have HGG:=Lib.hid hgd;clear hgd;have HBD7:=Lib.hid hbd7;have HW7:=Lib.hid hw7;have hsz7:=hw7.2.size;clear hbd7 hw7;go_upto_region 11 with fail
     go_cut [41] from 15 to 63 (fun bv w'=>∃ b : Bool,bv = .bool b ∧ (b = true ↔ (j = 0 ∧ (belowD 2 G.2).1 = 0)) ∧ Went w7 g (headC j G.2) w')
     case first =>
      by_cases h0 : j = 0
      ·
       subst h0;have h0 : (0 : Nat) = 0:=rfl;have HJ:=Lib.hid (show headC 0 G.2 = (belowD 2 G.2).2 from if_pos h0);clear h0;go_wp2_with fail
       refine (HON.out _ w7 HW7.out.1).mono ?_;rintro e w8 ⟨b8,rfl,hb8,hw8⟩;go_wp2_with fail
       go_meet
       exact ⟨b8,rfl,hb8.trans ⟨fun h=>⟨by first | trivial | rfl,h⟩,fun h=>h.2⟩,by rw [HJ.out];exact hw8⟩
      ·
       have z2 : 1 ≤ (j : Int):=by omega
       have HJ:=Lib.hid (show headC j G.2 = G.2 from if_neg h0);go_wp2_with fail
       go_meet
       exact ⟨false,rfl,⟨fun h=>by simp at h,fun h=>absurd h.1 h0⟩,by rw [HJ.out];exact ⟨HW7.out.1,Fr.refl _ _⟩⟩
     case rest =>
      obtain ⟨bh,rfl,hbh,hw8⟩:=hcut;obtain ⟨w8,rfl⟩ : ∃ w8 : World,w8 = wc:=⟨_,rfl⟩
      have hsz8:=hw8.2.size;have hP8:=HP.out.to (HW7.out.trans hw8);have hb8:=HBD7.out.fr hw8.2 (fun q q1 q2 e=>by omega) (Nat.le_refl _);obtain ⟨cssb,gb,hob,heb,hgb⟩:=hb8.open hsz7;have HPR:=Lib.hid (show (1 : Nat) < procL4.length by simp [procL4]);have cpr : w8.cell? ⟨w.heap.size + 1 + 1 + 1 + 1,1,none⟩ = some (.string ⟨#[112]⟩):=hP8.facts.2.2 1 HPR.out;have HNP:=Lib.hid (show ((namesD s)[1]?).getD ⟨#[]⟩ = (⟨#[112]⟩ : ByteArray) from by rw [HNM.out,List.getElem?_take_of_lt (by omega)];rfl);have HP8:=Lib.hid hP8;have HB8:=Lib.hid hb8;have HHB:=Lib.hid heb;have HW8:=Lib.hid (HW7.out.trans hw8);have honb:=each_one _ _ _ _ _ heb;have z3 : (1 : Int) < 2 + (((belowD 3 s).1 : Nat) : Int):=by omega
      have hlit:=World.ownsRow_lit (base:=w7.heap.size) (e := 106) (size:=8) w8 #[.int .i64 5,.string ⟨#[112]⟩,.int .i64 0,.int .i64 0,.string ⟨#[]⟩,.slice none 0 0,.slice none 0 0,.slice none 0 0] 1 hsz8 (by unfold maxLen;omega) rfl;have hob8 : (w8.alloc (.cells #[.int .i64 5,.string ⟨#[112]⟩,.int .i64 0,.int .i64 0,.string ⟨#[]⟩,.slice none 0 0,.slice none 0 0,.slice none 0 0] 106)).ownsRow wr.heap.size 106 8 (.slice A7 G.1.length c7) G.1.length cssb.flatten:=own_below hob (below_alloc0 _ _);have hsl8 : (w8.alloc (.cells #[.int .i64 5,.string ⟨#[112]⟩,.int .i64 0,.int .i64 0,.string ⟨#[]⟩,.slice none 0 0,.slice none 0 0,.slice none 0 0] 106)).heap.size = w8.heap.size + 1:=by simp
      clear hP8 hb8 heb hgb hw8 HW7 HBD7 hob;go_upto_if 41 with fail
      go_cut [6] from 15 to 63 (fun bd w'=>BodyIs wr g (headD (namesD s) j G.1 G.2) bd w')
      case first =>
       cases bh
       ·
        have h0 : ¬ (j = 0 ∧ (belowD 2 G.2).1 = 0):=fun h=>by have:=hbh.2 h;simp at this
        go_wp2_with fail
        go_meet
        rw [head_no h0];exact ⟨_,_,rfl,HB8.out.mono (Nat.le_refl _) hsz8,HW8.out⟩
       ·
        have h0:=hbh.1 rfl;have HH0:=Lib.hid h0;clear h0 hbh;go_wp2_with (at_builtin;refine append_sts rfl _ _ rfl hlit rfl rfl hob8 honb (by omega) (by omega) ?_;intro A9 c9 w9 ho9 hg9 hv9)
        go_wp2_with fail
        go_meet
        rw [head_yes HH0.out,HNP.out];have hF9 : Fr (fun q=>w7.heap.size ≤ q) w8 w9:=(Fr.of_below (below_alloc0 _ _)).trans ((Fr.refl (fun q=>w7.heap.size ≤ q) _).grown hg9 (fun q e _=>by injection e with e;simp only at e;omega));have hs9:=hF9.size;refine ⟨A9,c9,?_,?_,HW8.out.1.fr hF9 (fun q q1 q2=>by omega),HW8.out.2.past hF9 (fun q q1 q2=>?_)⟩
        · simp only [List.length_cons];rw [Nat.add_comm]
        · have hst:=sts_word (lo:=wr.heap.size) (EachIn.fr (Fr.of_below (S:=fun _=>False) (below_alloc0 w8 (.cells #[.int .i64 5,.string ⟨#[112]⟩,.int .i64 0,.int .i64 0,.string ⟨#[]⟩,.slice none 0 0,.slice none 0 0,.slice none 0 0] 106))) _ _ _ _ _ HHB.out (fun _ _ _ _ h=>h) hsz8) ((Fr.refl (fun q=>w7.heap.size ≤ q) _).grown hg9 (fun q e _=>by injection e with e;simp only at e;omega)) (by omega) ho9;simp only [List.length_cons];rw [Nat.add_comm] at hst;exact hst
        · have q3 : w7.heap.size ≤ q:=q2;exact absurd q3 (by omega)
      case rest =>
       obtain ⟨A9,c9,rfl,hbd9,hw9⟩:=hcut;obtain ⟨w9,rfl⟩ : ∃ w9 : World,w9 = wc:=⟨_,rfl⟩
       clear HP8 HB8 HHB HW8 honb hlit hob8 hsl8 hbh;have hsz9:=hw9.2.size;have hcH : St.cntL (headD (namesD s) j G.1 G.2).1 ≤ 54:=by rw [← HGG.out,← HCD.out];exact procB_cnt _ _ _ _
       have hlH:=cntL_len (headD (namesD s) j G.1 G.2).1;generalize hhd : headD (namesD s) j G.1 G.2 = H at hbd9 hw9 hcH hlH ⊢;have HHD:=Lib.hid hhd;clear hhd;have hP9:=HP.out.to hw9;obtain ⟨d2,f2,dp⟩:=hP9.facts;have f22:=f2 2;have hj4 : j < procL4.length:=by simp [procL4];omega
       have dj:=dp j hj4;have hD : Fr (fun _=>False) w9 w9.drew:=(Fr.refl _ _).drew;have hdl : ((namesD s).drop 1).length = 1 + (belowD 3 s).1:=by rw [List.length_drop,HNL.out];omega
       have hfx:=l05Fix_any ((namesD s).drop 1) (by omega) (by omega) H.1 (by omega) wr.heap.size w9.heap.size (.slice A9 H.1.length c9) g H.2 (some ⟨w.heap.size + 1 + 1 + 1 + 1,1,none⟩) 3 w9.drew (hbd9.fr hD (fun _ _ _ h=>h) (Nat.le_refl _)) (hP9.went.1.fr hD (fun _ _ h=>h)) (by omega) (Nat.le_refl _)
        (by
         have h1:=drop_rd (n:=1) (take_rd (n:=2 + (belowD 3 s).1) (hP9.rp.fr hD (fun _ _ h=>h)));rw [← List.map_take,← HNM.out,← List.map_drop] at h1;exact h1.mono (by omega)) (fun ad e=>by injection e with e;subst e;simp only;omega)
       rw [hdl] at hfx;have HFX:=Lib.hid hfx;have HW9:=Lib.hid hw9.2;have hwr9:=hw9.2.size;have HNX:=Lib.hid (show procsD (namesD s) (j + 1) (belowD 3 s).2 = (PS.1 ++ [(fixL ((namesD s).drop 1) H.1 H.2).1],(fixL ((namesD s).drop 1) H.1 H.2).2) from by
        have e1 : procD (namesD s) j PS.2 = fixL ((namesD s).drop 1) H.1 H.2:=by
         unfold procD;simp only [HA.out,HBB.out,HCD.out,HGG.out,HHD.out]
        rw [procsD,HPS.out,e1])
       have HZ:=Lib.hid (show ((namesD s).take (j + 1)).zip (PS.1 ++ [(fixL ((namesD s).drop 1) H.1 H.2).1]) = ((namesD s).take j).zip PS.1 ++ [(procL4[j],(fixL ((namesD s).drop 1) H.1 H.2).1)] from by
        have e0 : j < (namesD s).length:=by rw [HNL.out];exact hlt
        have e1 : (namesD s)[j] = procL4[j]:=by simp only [HNM.out,List.getElem_take]
        rw [zip_snoc e0 (by rw [← HPS.out];exact procsD_len _ _ _),e1])
       clear hfx hP9 dp f2 hD hbd9 hw9 hdl f22;have z5 : (1 : Int) ≤ 2 + (((belowD 3 s).1 : Nat) : Int):=by omega
       have z6 : (0 : Int) ≤ (j : Int):=by omega
       have hfr0 : ∀ w10,Fr (fun b=>b = g ∨ (wr.heap.size ≤ b ∧ b < w9.heap.size)) w9.drew w10 → Fr (fun b=>b = g ∨ (wr.heap.size ≤ b ∧ b < w9.heap.size)) w9 w10:=fun w10 h=>((Fr.refl _ w9).drew).trans h;have HFR0:=Lib.hid hfr0;clear hfr0;go_wp2_with fail
       refine wp_region_held_drew (S:=fun w'=>w'.cell? ⟨w.heap.size + 1 + 1 + 1 + 1,j,none⟩ = some (.string procL4[j])) (by kernel_rfl) (dj) (fun hHeld=>?_);first | refine hs_ 0 ?_ | (refine hr_ 0 ?_ ?_ ?_;rotate_left;(intro W hW;go_simp;try with_reducible rfl))
       first | refine hs_ 2 ?_ | (refine hr_ 2 ?_ ?_ ?_;rotate_left;(intro W hW;go_simp;try with_reducible rfl))
       first | refine hs_ 3 ?_ | (refine hr_ 3 ?_ ?_ ?_;rotate_left;(intro W hW;go_simp;try with_reducible rfl))
       first | refine hs_ 4 ?_ | (refine hr_ 4 ?_ ?_ ?_;rotate_left;(intro W hW;go_simp;try with_reducible rfl))
       first | refine hs_ 5 ?_ | (refine hr_ 5 ?_ ?_ ?_;rotate_left;(intro W hW;go_simp;try with_reducible rfl))
       first | refine hs_ 6 ?_ | (refine hr_ 6 ?_ ?_ ?_;rotate_left;(intro W hW;go_simp;try with_reducible rfl))
       first | refine hs_ 7 ?_ | (refine hr_ 7 ?_ ?_ ?_;rotate_left;(intro W hW;go_simp;try with_reducible rfl))
       first | refine hs_ 8 ?_ | (refine hr_ 8 ?_ ?_ ?_;rotate_left;(intro W hW;go_simp;try with_reducible rfl))
       first | refine hs_ 9 ?_ | (refine hr_ 9 ?_ ?_ ?_;rotate_left;(intro W hW;go_simp;try with_reducible rfl))
       refine hand_two (i:=1) (j:=10) rfl rfl (by kernel_rfl) (fun K hK=>?_) (fun K hK=>?_) 
       ·
        refine q_yes (by kernel_rfl) ?_;go_simp
        skip
        refine hk_ hK (hHeld) fun hHeld=>?_;clear hK K;refine ho_ 10 fun K hK=>?_;go_simp
        refine HFX.out.mono ?_;rintro e w10 ⟨rfl,hst,hcu,hfr⟩;have hfg:=HFR0.out w10 hfr;have hfw:=HW9.out.past hfg (fun b hb h=>h.elim id (fun h=>absurd h.1 (by omega)));have HP10:=Lib.hid (HP.out.to ⟨hcu,hfw⟩);have hHeld:=HP10.out.facts.2.2 j hj4;have d3:=HP10.out.facts.1;have d4 : ∀ o : Obj,(w10.alloc o).cell? ⟨w.heap.size + 1 + 1 + 1,2,none⟩ = some (.slice A j c):=fun o=>cell_below (below_alloc0 _ _) d3;have hsz10:=hfr.size;have hsz11 : w9.heap.size ≤ w10.heap.size:=hsz10;have HST:=Lib.hid hst;have HO10:=Lib.hid HP10.out.own;clear hst hcu hfr hfg hfw hsz10;refine hk_ hK (hHeld) fun hHeld=>?_;clear hK K;first | refine hs_ 11 ?_ | (refine hr_ 11 ?_ ?_ ?_;rotate_left;(intro W hW;go_simp;try with_reducible rfl))
        refine ho_ 12 fun K hK=>?_;go_simp
        skip
        refine hk_ hK (cell_below (below_alloc0 _ _) hHeld) fun hHeld=>?_;clear hK K;refine ho_ 13 fun K hK=>?_;refine append_cells_op Try.underlying81 info_proc rfl (by omega) (by omega) (.tmp 50) (.tmp 61) rfl [.string procL4[j],.slice A9 H.1.length c9] HO10.out rfl rfl rfl (by simp [Value.oneCell']) (by omega) (by omega) ?_;intro A14 c14 w14 ho14 hg14 hv14;have hF14 : Fr (fun b=>(Value.slice A j c).ownBlock = some b) w10 w14:=(Fr.refl _ w10).grown hg14 (fun b e _=>e);have hOW:=fun b e=>(HO10.out.lt b e).1;have e2:=hF14.cell d3 (fun e=>by have:=hOW _ e;simp only at this;omega);have ej:=hF14.cell (HP10.out.facts.2.2 j hj4) (fun e=>by have:=hOW _ e;simp only at this;omega);have e3 : w14.frozen? ⟨w.heap.size + 1 + 1 + 1,2,none⟩ = false:=(row_facts ((hF14.block _ (by have:=HP10.out.low;have:=HP10.out.high;omega) (fun e=>by have:=hOW _ e;omega)).trans HP10.out.box)).2 2;have HG14:=Lib.hid hg14;have HO14:=Lib.hid ho14;have HV14:=Lib.hid hv14;clear hg14 ho14 hv14 hF14 hOW d4;refine hk_ hK (ej) fun hHeld=>?_;clear hK K;first | refine hs_ 14 ?_ | (refine hr_ 14 ?_ ?_ ?_;rotate_left;(intro W hW;go_simp;try with_reducible rfl))
        refine ho_ 15 fun K hK=>?_;go_simp
        skip
        refine hk_ hK ((Fr.set (S:=fun b=>b = w.heap.size + 1 + 1 + 1) (Fr.refl _ w14) (a:=⟨w.heap.size + 1 + 1 + 1,2,none⟩) (fun _=>rfl) _).cell ej (by simp only;omega)) fun hHeld=>?_;clear hK K;refine wpAnyH_done (by kernel_rfl) ?_ _;obtain ⟨gp',hP'⟩:=HP10.out.more (nm:=procL4[j]) HST.out (Nat.le_refl _) hwr9 hsz11 HO14.out HG14.out HV14.out;have HPN:=Lib.hid hP';clear hP';go_wp2_with fail
        go_roundg (2 + (belowD 3 s).1 - (j + 1))
        case measure=>omega
        case rel=>exact ⟨j + 1,A14,c14,gp',css ++ [[.string procL4[j],.slice A9 H.1.length c9]],by omega,by omega,by go_num,by rw [HNX.out];rw [HZ.out];exact HPN.out⟩
       ·
        refine q_yes (by kernel_rfl) ?_;go_simp
        refine HFX.out.mono ?_;rintro e w10 ⟨rfl,hst,hcu,hfr⟩;have hfg:=HFR0.out w10 hfr;have hfw:=HW9.out.past hfg (fun b hb h=>h.elim id (fun h=>absurd h.1 (by omega)));have HP10:=Lib.hid (HP.out.to ⟨hcu,hfw⟩);have hHeld:=HP10.out.facts.2.2 j hj4;have d3:=HP10.out.facts.1;have d4 : ∀ o : Obj,(w10.alloc o).cell? ⟨w.heap.size + 1 + 1 + 1,2,none⟩ = some (.slice A j c):=fun o=>cell_below (below_alloc0 _ _) d3;have hsz10:=hfr.size;have hsz11 : w9.heap.size ≤ w10.heap.size:=hsz10;have HST:=Lib.hid hst;have HO10:=Lib.hid HP10.out.own;clear hst hcu hfr hfg hfw hsz10;refine hk_ hK (hHeld) fun hHeld=>?_;clear hK K;first | refine hs_ 11 ?_ | (refine hr_ 11 ?_ ?_ ?_;rotate_left;(intro W hW;go_simp;try with_reducible rfl))
        refine hand_two (i:=1) (j:=12) rfl rfl (by kernel_rfl) (fun K hK=>?_) (fun K hK=>?_) 
        ·
         refine q_yes (by kernel_rfl) ?_;go_simp
         skip
         refine hk_ hK (hHeld) fun hHeld=>?_;clear hK K;refine ho_ 12 fun K hK=>?_;go_simp
         skip
         refine hk_ hK (cell_below (below_alloc0 _ _) hHeld) fun hHeld=>?_;clear hK K;refine ho_ 13 fun K hK=>?_;refine append_cells_op Try.underlying81 info_proc rfl (by omega) (by omega) (.tmp 50) (.tmp 61) rfl [.string procL4[j],.slice A9 H.1.length c9] HO10.out rfl rfl rfl (by simp [Value.oneCell']) (by omega) (by omega) ?_;intro A14 c14 w14 ho14 hg14 hv14;have hF14 : Fr (fun b=>(Value.slice A j c).ownBlock = some b) w10 w14:=(Fr.refl _ w10).grown hg14 (fun b e _=>e);have hOW:=fun b e=>(HO10.out.lt b e).1;have e2:=hF14.cell d3 (fun e=>by have:=hOW _ e;simp only at this;omega);have ej:=hF14.cell (HP10.out.facts.2.2 j hj4) (fun e=>by have:=hOW _ e;simp only at this;omega);have e3 : w14.frozen? ⟨w.heap.size + 1 + 1 + 1,2,none⟩ = false:=(row_facts ((hF14.block _ (by have:=HP10.out.low;have:=HP10.out.high;omega) (fun e=>by have:=hOW _ e;omega)).trans HP10.out.box)).2 2;have HG14:=Lib.hid hg14;have HO14:=Lib.hid ho14;have HV14:=Lib.hid hv14;clear hg14 ho14 hv14 hF14 hOW d4;refine hk_ hK (ej) fun hHeld=>?_;clear hK K;first | refine hs_ 14 ?_ | (refine hr_ 14 ?_ ?_ ?_;rotate_left;(intro W hW;go_simp;try with_reducible rfl))
         refine ho_ 15 fun K hK=>?_;go_simp
         skip
         refine hk_ hK ((Fr.set (S:=fun b=>b = w.heap.size + 1 + 1 + 1) (Fr.refl _ w14) (a:=⟨w.heap.size + 1 + 1 + 1,2,none⟩) (fun _=>rfl) _).cell ej (by simp only;omega)) fun hHeld=>?_;clear hK K;refine wpAnyH_done (by kernel_rfl) ?_ _;obtain ⟨gp',hP'⟩:=HP10.out.more (nm:=procL4[j]) HST.out (Nat.le_refl _) hwr9 hsz11 HO14.out HG14.out HV14.out;have HPN:=Lib.hid hP';clear hP';go_wp2_with fail
         go_roundg (2 + (belowD 3 s).1 - (j + 1))
         case measure=>omega
         case rel=>exact ⟨j + 1,A14,c14,gp',css ++ [[.string procL4[j],.slice A9 H.1.length c9]],by omega,by omega,by go_num,by rw [HNX.out];rw [HZ.out];exact HPN.out⟩
        ·
         refine q_yes (by kernel_rfl) ?_;go_simp
         skip
         refine hk_ hK (cell_below (below_alloc0 _ _) hHeld) fun hHeld=>?_;clear hK K;refine ho_ 1 fun K hK=>?_;go_simp
         skip
         refine hk_ hK (hHeld) fun hHeld=>?_;clear hK K;refine ho_ 13 fun K hK=>?_;refine append_cells_op Try.underlying81 info_proc rfl (by omega) (by omega) (.tmp 50) (.tmp 61) rfl [.string procL4[j],.slice A9 H.1.length c9] HO10.out rfl rfl rfl (by simp [Value.oneCell']) (by omega) (by omega) ?_;intro A14 c14 w14 ho14 hg14 hv14;have hF14 : Fr (fun b=>(Value.slice A j c).ownBlock = some b) w10 w14:=(Fr.refl _ w10).grown hg14 (fun b e _=>e);have hOW:=fun b e=>(HO10.out.lt b e).1;have e2:=hF14.cell d3 (fun e=>by have:=hOW _ e;simp only at this;omega);have ej:=hF14.cell (HP10.out.facts.2.2 j hj4) (fun e=>by have:=hOW _ e;simp only at this;omega);have e3 : w14.frozen? ⟨w.heap.size + 1 + 1 + 1,2,none⟩ = false:=(row_facts ((hF14.block _ (by have:=HP10.out.low;have:=HP10.out.high;omega) (fun e=>by have:=hOW _ e;omega)).trans HP10.out.box)).2 2;have HG14:=Lib.hid hg14;have HO14:=Lib.hid ho14;have HV14:=Lib.hid hv14;clear hg14 ho14 hv14 hF14 hOW d4;refine hk_ hK (ej) fun hHeld=>?_;clear hK K;first | refine hs_ 14 ?_ | (refine hr_ 14 ?_ ?_ ?_;rotate_left;(intro W hW;go_simp;try with_reducible rfl))
         refine ho_ 15 fun K hK=>?_;go_simp
         skip
         refine hk_ hK ((Fr.set (S:=fun b=>b = w.heap.size + 1 + 1 + 1) (Fr.refl _ w14) (a:=⟨w.heap.size + 1 + 1 + 1,2,none⟩) (fun _=>rfl) _).cell ej (by simp only;omega)) fun hHeld=>?_;clear hK K;refine wpAnyH_done (by kernel_rfl) ?_ _;obtain ⟨gp',hP'⟩:=HP10.out.more (nm:=procL4[j]) HST.out (Nat.le_refl _) hwr9 hsz11 HO14.out HG14.out HV14.out;have HPN:=Lib.hid hP';clear hP';go_wp2_with fail
         go_roundg (2 + (belowD 3 s).1 - (j + 1))
         case measure=>omega
         case rel=>exact ⟨j + 1,A14,c14,gp',css ++ [[.string procL4[j],.slice A9 H.1.length c9]],by omega,by omega,by go_num,by rw [HNX.out];rw [HZ.out];exact HPN.out⟩
  ·
   obtain rfl : j = 2 + (belowD 3 s).1:=by omega
   have z1 : ¬ (((2 + (belowD 3 s).1 : Nat) : Int) < 2 + (((belowD 3 s).1 : Nat) : Int)):=by omega
   have hP:=HP.out;obtain ⟨q1,q2⟩:=row_facts hP.box;have b0:=q1 0 _ rfl;have b1:=q1 1 _ rfl;have b2:=q1 2 _ rfl;obtain ⟨q3,q4⟩:=row_facts hP.res;have r0:=q3 0 _ rfl;have r1:=q3 1 _ rfl;have r2:=q3 2 _ rfl;have f0:=q4 0;have f1:=q4 1;have f2:=q4 2;clear q1 q2 q3 q4 hP;go_wp2_with fail
   have hblk:=set_row (set_row (set_row HP.out.res 0 (.slice (some ⟨w.heap.size + 1,0,none⟩) 4 4)) 1 (.slice (some ⟨w.heap.size + 1 + 1,0,none⟩) 3 3)) 2 (.slice A (2 + (belowD 3 s).1) c);refine bodyPost_ret (results_cell_row rfl _ _ _ _ _ _ _ rfl hblk Try.underlying83 rfl (by kernel_rfl)) rfl ?_;have hF : Fr (fun b=>b = w.heap.size) wr (((wr.setCell ⟨w.heap.size,0,none⟩ (.slice (some ⟨w.heap.size + 1,0,none⟩) 4 4)).setCell ⟨w.heap.size,1,none⟩ (.slice (some ⟨w.heap.size + 1 + 1,0,none⟩) 3 3)).setCell ⟨w.heap.size,2,none⟩ (.slice A (2 + (belowD 3 s).1) c)) :=
    (((Fr.refl (fun b=>b = w.heap.size) wr).set (a:=⟨w.heap.size,0,none⟩) (fun _=>rfl) _).set (a:=⟨w.heap.size,1,none⟩) (fun _=>rfl) _).set (a:=⟨w.heap.size,2,none⟩) (fun _=>rfl) _
   have e1 : bodiesD s = PS.1:=by rw [HBD.out,HNL.out,HPS.out]
   refine ⟨_,_,A,c,by rw [HNL.out];rfl,?_,HP.out.went.2.past hF (fun b h1 h2=>absurd (show b = w.heap.size from h2) (by omega))⟩;refine HP.out.prog hF ?_ ?_
   · rw [e1,List.take_of_length_le (by rw [HNL.out];exact Nat.le_refl _)]
   · rw [e1,← HPS.out,procsD_len];exact HNL.out
end Go.Proofs.Ytkgoajnnkimkaaa
