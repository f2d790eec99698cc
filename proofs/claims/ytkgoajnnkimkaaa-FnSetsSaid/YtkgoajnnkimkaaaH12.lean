/- Lists of statements put behind each other; contract of the reference's l05Guarded. -/
import Derived.Test.YtkgoajnnkimkaaaH9
import Derived.Test.YtkgoajnnkimkaaaH10
set_option linter.unusedSimpArgs false
set_option linter.unusedVariables false
set_option maxRecDepth 100000
set_option maxHeartbeats 16000000
namespace Go.Proofs.Ytkgoajnnkimkaaa
open Go.ChangeShapes Go.WideShapes Go.ChangeAt Go.RowKit
theorem EachIn.low {w : World} : ∀ (l : List St) (g g' lo hi : Nat) (css : List (List Value)),EachIn w g lo hi l css → g' < lo → EachIn w g' lo hi l css
 | [],g,g',lo,hi,css,h,h1=>by simpa only [EachIn] using h
 | x :: r,g,g',lo,hi,css,h,h1=>by
  simp only [EachIn] at h ⊢;obtain ⟨cs,cr,m,n,q1,q2,q3,q4,q5,q6⟩:=h;exact ⟨cs,cr,m,n,q1,q2,q3,.inl (by omega),q5,EachIn.low r g g' n hi cr q6 (by omega)⟩
theorem each_one {w : World} : ∀ (l : List St) (g lo hi : Nat) (css : List (List Value)),EachIn w g lo hi l css → ∀ u ∈ css.flatten,u.oneCell' = true
 | [],g,lo,hi,css,h=>by
  simp only [EachIn] at h;rw [h.1];simp
 | x :: r,g,lo,hi,css,h=>by
  simp only [EachIn] at h;obtain ⟨cs,cr,m,n,rfl,q2,q3,q4,q5,q6⟩:=h;obtain ⟨k,nm,a,b,t,A1,n1,c1,A2,n2,c2,A3,n3,c3,rfl⟩:=stIn_form q5;have:=each_one r g n hi cr q6;intro u hu;rw [List.flatten_cons,List.mem_append] at hu;rcases hu with hu | hu
  · simp only [List.mem_cons,List.not_mem_nil,or_false] at hu;rcases hu with rfl | rfl | rfl | rfl | rfl | rfl | rfl | rfl <;> simp [Value.oneCell']
  · exact this u hu
theorem each_flat {w : World} {l : List St} {g lo hi : Nat} {css : List (List Value)} (h : EachIn w g lo hi l css) : css.flatten.length = l.length * 8:=by
 obtain ⟨h1,h2⟩:=each_len _ _ _ _ _ h;rw [← h1];clear h h1;induction css with
 | nil=>simp
 | cons c r ih =>
  rw [List.flatten_cons,List.length_append,h2 c (by simp),ih (fun x hx=>h2 x (by simp [hx])),List.length_cons];omega
theorem StsIn.open {w : World} {lo hi : Nat} {ss : List St} {v : Value} (h : StsIn w lo hi ss v) (hl : lo ≤ hi) : ∃ css g,w.ownsRow lo 106 8 v ss.length css.flatten ∧ EachIn w g lo hi ss css ∧ (∀ b,v.ownBlock = some b → b = g ∧ lo ≤ b ∧ b < hi):=by
 rcases h with ⟨rfl,rfl⟩ | ⟨g,cap,css,rfl,h1,h2,h3,h4⟩
 · exact ⟨[],hi,World.ownsRow_nil _ _ _ _,by rw [each_nil];exact ⟨rfl,hl⟩,fun b hb=>by simp [nilV,Value.ownBlock] at hb⟩
 · exact ⟨css,g,h3,h4,fun b hb=>by injection hb with hb;simp only at hb;omega⟩
theorem StsIn.shut {w : World} {lo hi : Nat} {ss : List St} {A : Option Addr} {c : Nat} {css : List (List Value)} (ho : w.ownsRow lo 106 8 (.slice A ss.length c) ss.length css.flatten) (he : ∀ g,(Value.slice A ss.length c).ownBlock = some g → g < hi ∧ EachIn w g lo hi ss css) : StsIn w lo hi ss (.slice A ss.length c):=by
 rcases ho.2 with ⟨e,h0⟩ | ⟨g,cap,cur,e,hg,hh,_⟩
 · injection e with e1 e2 e3;subst e1 e3;exact .inl ⟨by rw [h0];rfl,List.eq_nil_of_length_eq_zero h0⟩
 · injection e with e1 e2 e3;subst e1 e3;obtain ⟨h1,h2⟩:=he g rfl;exact .inr ⟨g,c,css,rfl,hg,h1,ho,h2⟩
theorem sts_app {wr w3 : World} {lo mid hi : Nat} {a b : List St} {va : Value} {cssa cssb : List (List Value)} {ga gb c : Nat} {A : Option Addr} (hea : EachIn wr ga lo mid a cssa) (hga : ∀ q, va.ownBlock = some q → q = ga ∧ lo ≤ q ∧ q < mid)
  (heb : EachIn wr gb mid hi b cssb) (hgb : ∀ q,va.ownBlock = some q → q < mid) (hh : hi ≤ wr.heap.size) (ho : w3.ownsRow lo 106 8 (.slice A (a ++ b).length c) (a ++ b).length (cssa ++ cssb).flatten) (hg : wr.grownBy w3 va.ownBlock)
  (hv : (Value.slice A (a ++ b).length c).ownBlock = va.ownBlock ∨ (Value.slice A (a ++ b).length c).ownBlock = some wr.heap.size) : StsIn w3 lo w3.heap.size (a ++ b) (.slice A (a ++ b).length c):=by
 have hla:=EachIn.le _ _ _ _ _ hea;have hlb:=EachIn.le _ _ _ _ _ heb;have hsz:=hg.size;have hF : Fr (fun q=>va.ownBlock = some q) wr w3:=(Fr.refl _ wr).grown hg (fun q h _=>h);have ha3:=EachIn.fr hF _ _ _ _ _ hea (fun q h1 h2 h3 e=>h3 (hga q e).1) (by omega);have hb3:=EachIn.fr hF _ _ _ _ _ heb (fun q h1 h2 h3 e=>by have:=hgb q e;omega) hh;refine StsIn.shut ho fun g hgk=>?_;rcases hv with e | e
 · rw [hgk] at e;obtain ⟨e1,e2,e3⟩:=hga g e.symm;subst e1;exact ⟨by omega,EachIn.mono _ _ _ _ _ _ _ (EachIn.app _ _ _ _ _ _ _ _ ha3 (EachIn.low _ _ _ _ _ _ hb3 (by omega))) (Nat.le_refl _) (by omega)⟩
 ·
  rw [hgk] at e;injection e with e;subst e;have hlt : wr.heap.size < w3.heap.size:=by
   rcases ho.2 with ⟨e,h0⟩ | ⟨g',cap,cur,e,_,hh',_⟩
   · rw [e] at hgk;simp [Value.ownBlock] at hgk
   · rw [e] at hgk;injection hgk with hgk;simp only at hgk;subst hgk;exact (Array.getElem?_eq_some_iff.1 hh').1
  exact ⟨hlt,EachIn.mono _ _ _ _ _ _ _ (EachIn.app _ _ _ _ _ _ _ _ (EachIn.high _ _ _ _ _ _ ha3 (by omega)) (EachIn.high _ _ _ _ _ _ hb3 (by omega))) (Nat.le_refl _) (by omega)⟩
section
variable (w : World) {ops : Array Oper} {rest : List Oper} {o : Oper} {a : Act} {Q : Exit → Act → World → Prop}
theorem append_sts {wr : World} (hgd : o.guard = none) (s x : Operand) (ho : o.op = .call { callee := .builtin .append, args := #[s, x], argTypes := #[98, 98] })
  {base base' : Nat} {v v6 : Value} {n k : Nat} {xs us : List Value} (hown : wr.ownsRow base 106 8 v n xs) (hs : a.eval s = v) (hx : a.eval x = v6) (hnew : wr.ownsRow base' 106 8 v6 k us) (h1 : ∀ u ∈ us,u.oneCell' = true)
  (hn : n + k ≤ 1000000) (hbase : base ≤ wr.heap.size)
  (hK : ∀ A c w',w'.ownsRow base 106 8 (.slice A (n + k) c) (n + k) (xs ++ us) → wr.grownBy w' v.ownBlock → ((Value.slice A (n + k) c).ownBlock = v.ownBlock ∨ (Value.slice A (n + k) c).ownBlock = some wr.heap.size) →
   wpList Try.prog ops Q rest (a.put o.dst (.slice A (n + k) c)) w') : wpList Try.prog ops Q (o :: rest) a wr:=by
 obtain ⟨i0,hi,hz0,hz1,hz2⟩:=info_parts info_stmt;refine wpList_plain hgd fun K hK'=>?_;have hul:=hnew.1;rcases hnew.2 with ⟨e6,h0⟩ | ⟨g6,cap6,cur6,e6,_⟩
 · subst h0;have hus : us = []:=List.eq_nil_of_length_eq_zero (by omega);subst hus;subst e6;have hrun:=run_append_owned_none (P:=Try.prog) (w:=wr) base 98 o.type 106 i0 8 Try.underlying98 hi v n xs hown;obtain ⟨A,c,rfl⟩:=own_form hown;unfold Oper.wp execOp;simp only [ho,resolve,invoke,builtin,Sem.run_bind,Sem.run_pure,Result.andThen_ok,List.map_toArray,List.map_cons,List.map_nil,hs,hx,List.length_nil,hrun];exact hK' _ _ (hK A c wr (by simpa using hown) (World.grownBy.refl _ _) (.inl rfl))
 ·
  subst e6;obtain ⟨v',w',hr,h2,h3,_,h4⟩:=run_append_own_at (P:=Try.prog) wr base 98 o.type 106 i0 _ 8 128 Try.underlying98 hi hz0 hz1 hz2 rfl (by omega) v n xs hown ⟨g6,0,none⟩ k cap6 us
   hul (fun j u hu=>by
    have hj : j < k * 8:=by rw [← hul];exact (List.getElem?_eq_some_iff.1 hu).1
    rw [add_mk,hnew.cellAt j hj];exact hu) h1 (by unfold maxLen;omega) (by omega) hbase
  obtain ⟨A,c,rfl⟩:=own_form h2;unfold Oper.wp execOp;simp only [ho,resolve,invoke,builtin,Sem.run_bind,Sem.run_pure,Result.andThen_ok,List.map_toArray,List.map_cons,List.map_nil,hs,hx,hr];exact hK' _ _ (hK A c w' h2 h3 (by simpa using h4))
end
theorem word_in (w : World) (m : Nat) (k : Int) (x : ByteArray) : StIn w m m (.word k x) [.int .i64 k,.string x,.int .i64 0,.int .i64 0,.string ⟨#[]⟩,.slice none 0 0,.slice none 0 0,.slice none 0 0]:=by simp only [StIn];rfl
theorem guardD_same {body : List St} {s : Cr} (h : (pickD lockL s).1 = (pickD lockL (pickD lockL s).2).1) : guardD body s = (.word 6 (pickD lockL s).1 :: body ++ [.word 7 (pickD lockL s).1],(pickD lockL (pickD lockL s).2).2):=if_pos h
theorem guardD_two {body : List St} {s : Cr} (h : ¬ (pickD lockL s).1 = (pickD lockL (pickD lockL s).2).1) (h2 : (belowD 2 (pickD lockL (pickD lockL s).2).2).1 = 0) : guardD body s = (.word 6 (pickD lockL s).1 :: .word 6 (pickD lockL (pickD lockL s).2).1 :: body ++ [.word 7 (pickD lockL s).1],(belowD 2 (pickD lockL (pickD lockL s).2).2).2):=(if_neg h).trans (if_pos h2)
theorem guardD_one {body : List St} {s : Cr} (h : ¬ (pickD lockL s).1 = (pickD lockL (pickD lockL s).2).1) (h2 : ¬ (belowD 2 (pickD lockL (pickD lockL s).2).2).1 = 0) : guardD body s = (.word 6 (pickD lockL s).1 :: body ++ [.word 7 (pickD lockL s).1],(belowD 2 (pickD lockL (pickD lockL s).2).2).2):=(if_neg h).trans (if_neg h2)
def StsNew (w : World) (lo g : Nat) (x : List St × Cr) (e : Ending) (w' : World) : Prop:=∃ A c,e = .returned (.slice A x.1.length c) ∧ StsIn w' lo w'.heap.size x.1 (.slice A x.1.length c) ∧ Went w g x.2 w'
theorem l05Guarded_any (body : List St) (hn : body.length ≤ 100000) (lo hi : Nat) (v : Value) (g : Nat) (s : Cr) (w : World) (h : StsIn w lo hi body v) (hc : CurAt w g s) (hgl : g < lo) (hlh : lo ≤ hi) (hh : hi ≤ w.heap.size) :
  Calls Try.prog 65 #[.pointer (some ⟨g,0,none⟩),v] w (StsNew w lo g (guardD body s)):=by
 have hgw:=hc.lt;obtain ⟨cssb,gb,hbo,hbe,hbg⟩:=h.open hlh;obtain ⟨Ab,cb,rfl⟩:=h.form;clear h;have hP:=fun (cs : Array Value) (h : cs.toList = lockL.map sv)=>(show Calls Try.prog 86 #[.pointer (some ⟨g,0,none⟩),.slice (some ⟨w.heap.size,0,none⟩) 3 3] (w.alloc (.cells cs 9)) fun e w'=>e = .returned (.string (pickD lockL s).1) ∧ Went (w.alloc (.cells cs 9)) g (pickD lockL s).2 w' from
  l01Pick_any lockL _ 3 g _ _ (hc.below (below_alloc0 _ _)) (lit_rd w cs 9 _ h) (fun ad e=>by injection e with e;subst e;simp only;omega) (by simp [lockL]) (by simp [lockL]))
 have HP1:=Lib.hid hP;clear hP;have HP2:=Lib.hid (fun w1 (hc1 : CurAt w1 g (pickD lockL s).2) (hgw1 : g < w1.heap.size) (cs : Array Value) (h : cs.toList = lockL.map sv)=>(show Calls Try.prog 86 #[.pointer (some ⟨g,0,none⟩),.slice (some ⟨w1.heap.size,0,none⟩) 3 3] (w1.alloc (.cells cs 9)) fun e w'=>e = .returned (.string (pickD lockL (pickD lockL s).2).1) ∧ Went (w1.alloc (.cells cs 9)) g (pickD lockL (pickD lockL s).2).2 w' from
  l01Pick_any lockL _ 3 g _ _ (hc1.below (below_alloc0 _ _)) (lit_rd w1 cs 9 _ h) (fun ad e=>by injection e with e;subst e;simp only;omega) (by simp [lockL]) (by simp [lockL])))
 have HG1:=Lib.hid (guardD_same (body:=body) (s:=s));have HG2:=Lib.hid (guardD_two (body:=body) (s:=s));have HG3:=Lib.hid (guardD_one (body:=body) (s:=s));generalize pickD lockL s = A1 at HP1 HP2 HG1 HG2 HG3;generalize pickD lockL A1.2 = B2 at HP2 HG1 HG2 HG3;clear hc;by_cases hab : A1.1 = B2.1
 ·
  have HE:=Lib.hid (HG1.out hab);have hab2 : (A1.1.toList == B2.1.toList) = true:=by rw [hab];simp
  clear HG1 HG2 HG3 hab
  go_enter Try.func65, Try.ntmps65
  go_wp2_with fail
  refine (HP1.out _ rfl).mono ?_;rintro e w1 ⟨rfl,hw1⟩;have hsz1:=hw1.2.size;have hW1 : Went w g A1.2 w1:=⟨hw1.1,(Fr.of_below (below_alloc0 _ _)).trans hw1.2⟩
  have hs0 : w.heap.size < w1.heap.size:=Nat.lt_of_lt_of_le (by simp) hsz1;have HW1:=Lib.hid hW1;clear hw1 hsz1 hW1;go_wp2_with fail
  refine (HP2.out w1 HW1.out.1 (by omega) _ rfl).mono ?_;rintro e w2 ⟨rfl,hw2⟩;have hsz2:=hw2.2.size;have hs2 : w1.heap.size < w2.heap.size:=Nat.lt_of_lt_of_le (by simp) hsz2;have hW2 : Went w g B2.2 w2:=⟨hw2.1,(HW1.out.2.trans (Fr.of_below (below_alloc0 _ _))).trans hw2.2⟩
  have HW2:=Lib.hid hW2;clear hw2 hsz2;have hlit:=World.ownsRow_lit (base:=w.heap.size) (e := 106) (size:=8) w2 #[.int .i64 6,.string A1.1,.int .i64 0,.int .i64 0,.string ⟨#[]⟩,.slice none 0 0,.slice none 0 0,.slice none 0 0] 1 (by omega) (by unfold maxLen;omega) rfl;have hW3 : Went w g B2.2 (w2.alloc (.cells #[.int .i64 6,.string A1.1,.int .i64 0,.int .i64 0,.string ⟨#[]⟩,.slice none 0 0,.slice none 0 0,.slice none 0 0] 106)):=⟨HW2.out.1.below (below_alloc0 _ _),HW2.out.2.trans (Fr.of_below (below_alloc0 _ _))⟩
  have hs3 : (w2.alloc (.cells #[.int .i64 6,.string A1.1,.int .i64 0,.int .i64 0,.string ⟨#[]⟩,.slice none 0 0,.slice none 0 0,.slice none 0 0] 106)).heap.size = w2.heap.size + 1:=by simp
  have hown : (w2.alloc (.cells #[.int .i64 6,.string A1.1,.int .i64 0,.int .i64 0,.string ⟨#[]⟩,.slice none 0 0,.slice none 0 0,.slice none 0 0] 106)).ownsRow w.heap.size 106 8 (.slice (some ⟨w2.heap.size,0,none⟩) 1 1) 1 ([[.int .i64 6,.string A1.1,.int .i64 0,.int .i64 0,.string ⟨#[]⟩,.slice none 0 0,.slice none 0 0,.slice none 0 0]].flatten):=by simpa using hlit
  clear hlit;have hOB : ∀ b,(Value.slice (some ⟨w2.heap.size,0,none⟩) 1 1).ownBlock = some b → w.heap.size ≤ b:=fun b hb=>by injection hb with hb;(try simp only at hb);omega
  have hWW:=hW3;clear hW3 hW2;have hob:=hWW.2.own hbo (fun b hb e=>by have:=hbg b hb;omega);have hon:=each_one _ _ _ _ _ hbe;have hfl:=each_flat hbe;have hszW:=hWW.2.size;go_wp2_with (at_builtin;first
   | (refine append_sts rfl _ _ rfl hown rfl rfl hob hon (by omega) (by omega) ?_;intro A5 c5 w5 ho5 hg5 hv5;have hk5:=hg5.size;have hB5 : ∀ b,(Value.slice A5 (1 + body.length) c5).ownBlock = some b → w.heap.size ≤ b:=(fun b hb=>hv5.elim (fun e=>hOB b (e.symm.trans hb)) (fun e=>by rw [hb] at e;injection e with e;omega));have HB5:=Lib.hid hB5;have HO5:=Lib.hid ho5;have HG5:=Lib.hid hg5;clear hB5 hv5)
   | (refine append_cells Try.underlying98 info_stmt rfl (by omega) (by omega) rfl _ _ rfl [.int .i64 7,.string A1.1,.int .i64 0,.int .i64 0,.string ⟨#[]⟩,.slice none 0 0,.slice none 0 0,.slice none 0 0] HO5.out rfl rfl rfl (by simp [Value.oneCell']) (by omega) (by omega) ?_;intro A6 c6 w6 ho6 hg6 hv6))
  have hk6:=hg6.size;have hF6 : Fr (· = g) w w6:=(hWW.2.grown HG5.out (fun b hb hl=>absurd (hOB b hb) (by omega))).grown hg6 (fun b hb hl=>absurd (HB5.out b hb) (by omega));have hc6 : CurAt w6 g B2.2 :=
   (hWW.1.fr ((Fr.refl (fun b=>w.heap.size ≤ b) _).grown HG5.out (fun b hb hl=>hOB b hb)) (fun b hb e=>by omega)).fr ((Fr.refl (fun b=>w.heap.size ≤ b) _).grown hg6 (fun b hb hl=>HB5.out b hb)) (fun b hb e=>by omega)
  have hbe6:=EachIn.fr hF6 _ _ _ _ _ hbe (fun q h1 h2 h3 e=>by omega) hh;have hst : StsIn w6 lo w6.heap.size ([.word 6 A1.1] ++ body ++ [St.word 7 A1.1]) (.slice A6 (1 + body.length + 1) c6):=by
   have el : (([.word 6 A1.1] : List St) ++ body ++ [St.word 7 A1.1]).length = 1 + body.length + 1:=by simp;omega
   have hflat : (([[.int .i64 6,.string A1.1,.int .i64 0,.int .i64 0,.string ⟨#[]⟩,.slice none 0 0,.slice none 0 0,.slice none 0 0]] : List (List Value)) ++ cssb ++ ([[.int .i64 7,.string A1.1,.int .i64 0,.int .i64 0,.string ⟨#[]⟩,.slice none 0 0,.slice none 0 0,.slice none 0 0]] : List (List Value))).flatten = ([[.int .i64 6,.string A1.1,.int .i64 0,.int .i64 0,.string ⟨#[]⟩,.slice none 0 0,.slice none 0 0,.slice none 0 0]] : List (List Value)).flatten ++ cssb.flatten ++ ([.int .i64 7,.string A1.1,.int .i64 0,.int .i64 0,.string ⟨#[]⟩,.slice none 0 0,.slice none 0 0,.slice none 0 0] : List Value):=by simp
   have ho6' : w6.ownsRow lo 106 8 (.slice A6 (([.word 6 A1.1] : List St) ++ body ++ [St.word 7 A1.1]).length c6) (([.word 6 A1.1] : List St) ++ body ++ [St.word 7 A1.1]).length (([[.int .i64 6,.string A1.1,.int .i64 0,.int .i64 0,.string ⟨#[]⟩,.slice none 0 0,.slice none 0 0,.slice none 0 0]] : List (List Value)) ++ cssb ++ ([[.int .i64 7,.string A1.1,.int .i64 0,.int .i64 0,.string ⟨#[]⟩,.slice none 0 0,.slice none 0 0,.slice none 0 0]] : List (List Value))).flatten:=by
    rw [el,hflat];exact own_mono ho6 (by omega)
   have:=StsIn.shut ho6' (hi:=w6.heap.size) (fun q hq=>by
    have hq1 : w.heap.size ≤ q ∧ q < w6.heap.size:=by
     rw [el] at hq;obtain ⟨gq,eq,h1,h2⟩:=own_someH ho6 (by omega);rw [eq] at hq;injection hq with hq;try simp only at hq
     omega
    exact ⟨hq1.2,EachIn.mono _ _ _ _ _ _ _ (EachIn.app _ _ _ _ hi _ _ _ (EachIn.app _ _ _ _ lo _ _ _ (EachIn.one (word_in _ lo 6 A1.1) (Nat.le_refl _) (Nat.le_refl _) (Nat.le_refl _) (.inr (by omega))) (EachIn.high _ _ _ _ _ _ hbe6 (by omega))) (EachIn.one (word_in _ hi 7 A1.1) (Nat.le_refl _) (Nat.le_refl _) (Nat.le_refl _) (.inr (by omega)))) (Nat.le_refl _) (by omega)⟩)
   rwa [el] at this
  have HFI:=Lib.hid (show StsNew w lo g (guardD body s) (.returned (.slice A6 (1 + body.length + 1) c6)) w6 from by
   rw [HE.out];have el : (([.word 6 A1.1] : List St) ++ body ++ [St.word 7 A1.1]).length = 1 + body.length + 1:=by simp;omega
   refine ⟨A6,c6,?_,?_,hc6,hF6⟩
   ·
    show Ending.returned (.slice A6 (1 + body.length + 1) c6) = .returned (.slice A6 (([.word 6 A1.1] : List St) ++ body ++ [St.word 7 A1.1]).length c6)
    rw [el]
   ·
    show StsIn w6 lo w6.heap.size ([.word 6 A1.1] ++ body ++ [St.word 7 A1.1]) (.slice A6 (([.word 6 A1.1] : List St) ++ body ++ [St.word 7 A1.1]).length c6)
    rw [el];exact hst)
  clear hst hbe6 hc6 hF6;go_wp2_with fail
  go_ret
  exact HFI.out
 ·
  have hab2 : (A1.1.toList == B2.1.toList) = false:=by rw [str_beq,decide_eq_false];exact fun h=>hab h
  have HON:=Lib.hid (fun W (h : CurAt W g B2.2)=>(show Calls Try.prog 64 #[.pointer (some ⟨g,0,none⟩),.int .i64 2] W fun e w'=>e = .returned (.bool (decide ((belowD 2 B2.2).1 = 0))) ∧ Went W g (belowD 2 B2.2).2 w' from l01Once_any 2 g _ W h (by omega) (by omega)));by_cases h2 : (belowD 2 B2.2).1 = 0
  ·
   have HE:=Lib.hid (HG2.out hab h2);have ho:=HON.out;rw [decide_eq_true h2] at ho;have HON:=Lib.hid ho;clear HG1 HG2 HG3 ho h2 hab;generalize belowD 2 B2.2 = O2 at HON HE
   go_enter Try.func65, Try.ntmps65
   go_wp2_with fail
   refine (HP1.out _ rfl).mono ?_;rintro e w1 ⟨rfl,hw1⟩;have hsz1:=hw1.2.size;have hW1 : Went w g A1.2 w1:=⟨hw1.1,(Fr.of_below (below_alloc0 _ _)).trans hw1.2⟩
   have hs0 : w.heap.size < w1.heap.size:=Nat.lt_of_lt_of_le (by simp) hsz1;have HW1:=Lib.hid hW1;clear hw1 hsz1 hW1;go_wp2_with fail
   refine (HP2.out w1 HW1.out.1 (by omega) _ rfl).mono ?_;rintro e w2 ⟨rfl,hw2⟩;have hsz2:=hw2.2.size;have hs2 : w1.heap.size < w2.heap.size:=Nat.lt_of_lt_of_le (by simp) hsz2;have hW2 : Went w g B2.2 w2:=⟨hw2.1,(HW1.out.2.trans (Fr.of_below (below_alloc0 _ _))).trans hw2.2⟩
   have HW2:=Lib.hid hW2;clear hw2 hsz2;have hlit:=World.ownsRow_lit (base:=w.heap.size) (e := 106) (size:=8) w2 #[.int .i64 6,.string A1.1,.int .i64 0,.int .i64 0,.string ⟨#[]⟩,.slice none 0 0,.slice none 0 0,.slice none 0 0] 1 (by omega) (by unfold maxLen;omega) rfl;have hW3 : Went w g B2.2 (w2.alloc (.cells #[.int .i64 6,.string A1.1,.int .i64 0,.int .i64 0,.string ⟨#[]⟩,.slice none 0 0,.slice none 0 0,.slice none 0 0] 106)):=⟨HW2.out.1.below (below_alloc0 _ _),HW2.out.2.trans (Fr.of_below (below_alloc0 _ _))⟩
   have hs3 : (w2.alloc (.cells #[.int .i64 6,.string A1.1,.int .i64 0,.int .i64 0,.string ⟨#[]⟩,.slice none 0 0,.slice none 0 0,.slice none 0 0] 106)).heap.size = w2.heap.size + 1:=by simp
   have hown : (w2.alloc (.cells #[.int .i64 6,.string A1.1,.int .i64 0,.int .i64 0,.string ⟨#[]⟩,.slice none 0 0,.slice none 0 0,.slice none 0 0] 106)).ownsRow w.heap.size 106 8 (.slice (some ⟨w2.heap.size,0,none⟩) 1 1) 1 ([[.int .i64 6,.string A1.1,.int .i64 0,.int .i64 0,.string ⟨#[]⟩,.slice none 0 0,.slice none 0 0,.slice none 0 0]].flatten):=by simpa using hlit
   clear hlit;have hOB : ∀ b,(Value.slice (some ⟨w2.heap.size,0,none⟩) 1 1).ownBlock = some b → w.heap.size ≤ b:=fun b hb=>by injection hb with hb;(try simp only at hb);omega
   clear hW2;go_wp2_with fail
   refine (HON.out _ hW3.1).mono ?_;rintro e w4 ⟨rfl,hw4⟩;have hk4:=hw4.2.size;have hW4:=hW3.trans hw4;have hown4:=hw4.2.own hown (fun b hb e=>by have:=hOB b hb;omega);clear hw4 hW3 hown;have HO4:=Lib.hid hown4;have HW4:=Lib.hid hW4;clear hown4 hW4 hOB;go_wp2_with (at_builtin;first
    | (refine append_cells Try.underlying98 info_stmt rfl (by omega) (by omega) rfl _ _ rfl [.int .i64 6,.string B2.1,.int .i64 0,.int .i64 0,.string ⟨#[]⟩,.slice none 0 0,.slice none 0 0,.slice none 0 0] HO4.out rfl rfl rfl (by simp [Value.oneCell']) (by omega) (by omega) ?_;intro A7 c7 w7 ho7 hg7 hv7;have hk7:=hg7.size;have hOB : ∀ b,(Value.slice A7 2 c7).ownBlock = some b → w.heap.size ≤ b:=(fun b hb=>hv7.elim (fun e=>by have e2:=hb.symm.trans e;injection e2 with e2;(try simp only at e2);omega) (fun e=>by have e2:=hb.symm.trans e;injection e2 with e2;omega));have hWW : Went w g O2.2 w7:=⟨HW4.out.1.fr ((Fr.refl (fun b=>w.heap.size ≤ b) _).grown hg7 (fun b hb hl=>by injection hb with hb;(try simp only at hb);omega)) (fun b hb e=>by omega),HW4.out.2.grown hg7 (fun b hb hl=>by injection hb with hb;(try simp only at hb);omega)⟩;have hown : w7.ownsRow w.heap.size 106 8 (.slice A7 2 c7) 2 (([[.int .i64 6,.string A1.1,.int .i64 0,.int .i64 0,.string ⟨#[]⟩,.slice none 0 0,.slice none 0 0,.slice none 0 0],[.int .i64 6,.string B2.1,.int .i64 0,.int .i64 0,.string ⟨#[]⟩,.slice none 0 0,.slice none 0 0,.slice none 0 0]] : List (List Value)).flatten):=(by simpa using ho7);have hob:=hWW.2.own hbo (fun b hb e=>by have:=hbg b hb;omega);have hon:=each_one _ _ _ _ _ hbe;have hfl:=each_flat hbe;have hszW:=hWW.2.size;clear ho7 hg7 hv7)
    | (refine append_sts rfl _ _ rfl hown rfl rfl hob hon (by omega) (by omega) ?_;intro A5 c5 w5 ho5 hg5 hv5;have hk5:=hg5.size;have hB5 : ∀ b,(Value.slice A5 (2 + body.length) c5).ownBlock = some b → w.heap.size ≤ b:=(fun b hb=>hv5.elim (fun e=>hOB b (e.symm.trans hb)) (fun e=>by rw [hb] at e;injection e with e;omega));have HB5:=Lib.hid hB5;have HO5:=Lib.hid ho5;have HG5:=Lib.hid hg5;clear hB5 hv5)
    | (refine append_cells Try.underlying98 info_stmt rfl (by omega) (by omega) rfl _ _ rfl [.int .i64 7,.string A1.1,.int .i64 0,.int .i64 0,.string ⟨#[]⟩,.slice none 0 0,.slice none 0 0,.slice none 0 0] HO5.out rfl rfl rfl (by simp [Value.oneCell']) (by omega) (by omega) ?_;intro A6 c6 w6 ho6 hg6 hv6))
   have hk6:=hg6.size;have hF6 : Fr (· = g) w w6:=(hWW.2.grown HG5.out (fun b hb hl=>absurd (hOB b hb) (by omega))).grown hg6 (fun b hb hl=>absurd (HB5.out b hb) (by omega));have hc6 : CurAt w6 g O2.2 :=
    (hWW.1.fr ((Fr.refl (fun b=>w.heap.size ≤ b) _).grown HG5.out (fun b hb hl=>hOB b hb)) (fun b hb e=>by omega)).fr ((Fr.refl (fun b=>w.heap.size ≤ b) _).grown hg6 (fun b hb hl=>HB5.out b hb)) (fun b hb e=>by omega)
   have hbe6:=EachIn.fr hF6 _ _ _ _ _ hbe (fun q h1 h2 h3 e=>by omega) hh;have hst : StsIn w6 lo w6.heap.size ([.word 6 A1.1,.word 6 B2.1] ++ body ++ [St.word 7 A1.1]) (.slice A6 (2 + body.length + 1) c6):=by
    have el : (([.word 6 A1.1,.word 6 B2.1] : List St) ++ body ++ [St.word 7 A1.1]).length = 2 + body.length + 1:=by simp;omega
    have hflat : (([[.int .i64 6,.string A1.1,.int .i64 0,.int .i64 0,.string ⟨#[]⟩,.slice none 0 0,.slice none 0 0,.slice none 0 0],[.int .i64 6,.string B2.1,.int .i64 0,.int .i64 0,.string ⟨#[]⟩,.slice none 0 0,.slice none 0 0,.slice none 0 0]] : List (List Value)) ++ cssb ++ ([[.int .i64 7,.string A1.1,.int .i64 0,.int .i64 0,.string ⟨#[]⟩,.slice none 0 0,.slice none 0 0,.slice none 0 0]] : List (List Value))).flatten = ([[.int .i64 6,.string A1.1,.int .i64 0,.int .i64 0,.string ⟨#[]⟩,.slice none 0 0,.slice none 0 0,.slice none 0 0],[.int .i64 6,.string B2.1,.int .i64 0,.int .i64 0,.string ⟨#[]⟩,.slice none 0 0,.slice none 0 0,.slice none 0 0]] : List (List Value)).flatten ++ cssb.flatten ++ ([.int .i64 7,.string A1.1,.int .i64 0,.int .i64 0,.string ⟨#[]⟩,.slice none 0 0,.slice none 0 0,.slice none 0 0] : List Value):=by simp
    have ho6' : w6.ownsRow lo 106 8 (.slice A6 (([.word 6 A1.1,.word 6 B2.1] : List St) ++ body ++ [St.word 7 A1.1]).length c6) (([.word 6 A1.1,.word 6 B2.1] : List St) ++ body ++ [St.word 7 A1.1]).length (([[.int .i64 6,.string A1.1,.int .i64 0,.int .i64 0,.string ⟨#[]⟩,.slice none 0 0,.slice none 0 0,.slice none 0 0],[.int .i64 6,.string B2.1,.int .i64 0,.int .i64 0,.string ⟨#[]⟩,.slice none 0 0,.slice none 0 0,.slice none 0 0]] : List (List Value)) ++ cssb ++ ([[.int .i64 7,.string A1.1,.int .i64 0,.int .i64 0,.string ⟨#[]⟩,.slice none 0 0,.slice none 0 0,.slice none 0 0]] : List (List Value))).flatten:=by
     rw [el,hflat];exact own_mono ho6 (by omega)
    have:=StsIn.shut ho6' (hi:=w6.heap.size) (fun q hq=>by
     have hq1 : w.heap.size ≤ q ∧ q < w6.heap.size:=by
      rw [el] at hq;obtain ⟨gq,eq,h1,h2⟩:=own_someH ho6 (by omega);rw [eq] at hq;injection hq with hq;try simp only at hq
      omega
     exact ⟨hq1.2,EachIn.mono _ _ _ _ _ _ _ (EachIn.app _ _ _ _ hi _ _ _ (EachIn.app _ _ _ _ lo _ _ _ (EachIn.app [.word 6 A1.1] [.word 6 B2.1] _ _ lo _ [_] [_] (EachIn.one (word_in _ lo 6 A1.1) (Nat.le_refl _) (Nat.le_refl _) (Nat.le_refl _) (.inr (by omega))) (EachIn.one (word_in _ lo 6 B2.1) (Nat.le_refl _) (Nat.le_refl _) (Nat.le_refl _) (.inr (by omega)))) (EachIn.high _ _ _ _ _ _ hbe6 (by omega))) (EachIn.one (word_in _ hi 7 A1.1) (Nat.le_refl _) (Nat.le_refl _) (Nat.le_refl _) (.inr (by omega)))) (Nat.le_refl _) (by omega)⟩)
    rwa [el] at this
   have HFI:=Lib.hid (show StsNew w lo g (guardD body s) (.returned (.slice A6 (2 + body.length + 1) c6)) w6 from by
    rw [HE.out];have el : (([.word 6 A1.1,.word 6 B2.1] : List St) ++ body ++ [St.word 7 A1.1]).length = 2 + body.length + 1:=by simp;omega
    refine ⟨A6,c6,?_,?_,hc6,hF6⟩
    ·
     show Ending.returned (.slice A6 (2 + body.length + 1) c6) = .returned (.slice A6 (([.word 6 A1.1,.word 6 B2.1] : List St) ++ body ++ [St.word 7 A1.1]).length c6)
     rw [el]
    ·
     show StsIn w6 lo w6.heap.size ([.word 6 A1.1,.word 6 B2.1] ++ body ++ [St.word 7 A1.1]) (.slice A6 (([.word 6 A1.1,.word 6 B2.1] : List St) ++ body ++ [St.word 7 A1.1]).length c6)
     rw [el];exact hst)
   clear hst hbe6 hc6 hF6;go_wp2_with fail
   go_ret
   exact HFI.out
  ·
   have HE:=Lib.hid (HG3.out hab h2);have ho:=HON.out;rw [decide_eq_false h2] at ho;have HON:=Lib.hid ho;clear HG1 HG2 HG3 ho h2 hab;generalize belowD 2 B2.2 = O2 at HON HE
   go_enter Try.func65, Try.ntmps65
   go_wp2_with fail
   refine (HP1.out _ rfl).mono ?_;rintro e w1 ⟨rfl,hw1⟩;have hsz1:=hw1.2.size;have hW1 : Went w g A1.2 w1:=⟨hw1.1,(Fr.of_below (below_alloc0 _ _)).trans hw1.2⟩
   have hs0 : w.heap.size < w1.heap.size:=Nat.lt_of_lt_of_le (by simp) hsz1;have HW1:=Lib.hid hW1;clear hw1 hsz1 hW1;go_wp2_with fail
   refine (HP2.out w1 HW1.out.1 (by omega) _ rfl).mono ?_;rintro e w2 ⟨rfl,hw2⟩;have hsz2:=hw2.2.size;have hs2 : w1.heap.size < w2.heap.size:=Nat.lt_of_lt_of_le (by simp) hsz2;have hW2 : Went w g B2.2 w2:=⟨hw2.1,(HW1.out.2.trans (Fr.of_below (below_alloc0 _ _))).trans hw2.2⟩
   have HW2:=Lib.hid hW2;clear hw2 hsz2;have hlit:=World.ownsRow_lit (base:=w.heap.size) (e := 106) (size:=8) w2 #[.int .i64 6,.string A1.1,.int .i64 0,.int .i64 0,.string ⟨#[]⟩,.slice none 0 0,.slice none 0 0,.slice none 0 0] 1 (by omega) (by unfold maxLen;omega) rfl;have hW3 : Went w g B2.2 (w2.alloc (.cells #[.int .i64 6,.string A1.1,.int .i64 0,.int .i64 0,.string ⟨#[]⟩,.slice none 0 0,.slice none 0 0,.slice none 0 0] 106)):=⟨HW2.out.1.below (below_alloc0 _ _),HW2.out.2.trans (Fr.of_below (below_alloc0 _ _))⟩
   have hs3 : (w2.alloc (.cells #[.int .i64 6,.string A1.1,.int .i64 0,.int .i64 0,.string ⟨#[]⟩,.slice none 0 0,.slice none 0 0,.slice none 0 0] 106)).heap.size = w2.heap.size + 1:=by simp
   have hown : (w2.alloc (.cells #[.int .i64 6,.string A1.1,.int .i64 0,.int .i64 0,.string ⟨#[]⟩,.slice none 0 0,.slice none 0 0,.slice none 0 0] 106)).ownsRow w.heap.size 106 8 (.slice (some ⟨w2.heap.size,0,none⟩) 1 1) 1 ([[.int .i64 6,.string A1.1,.int .i64 0,.int .i64 0,.string ⟨#[]⟩,.slice none 0 0,.slice none 0 0,.slice none 0 0]].flatten):=by simpa using hlit
   clear hlit;have hOB : ∀ b,(Value.slice (some ⟨w2.heap.size,0,none⟩) 1 1).ownBlock = some b → w.heap.size ≤ b:=fun b hb=>by injection hb with hb;(try simp only at hb);omega
   clear hW2;go_wp2_with fail
   refine (HON.out _ hW3.1).mono ?_;rintro e w4 ⟨rfl,hw4⟩;have hk4:=hw4.2.size;have hWW:=hW3.trans hw4;have hown:=hw4.2.own hown (fun b hb e=>by have:=hOB b hb;omega);clear hw4 hW3;have hob:=hWW.2.own hbo (fun b hb e=>by have:=hbg b hb;omega);have hon:=each_one _ _ _ _ _ hbe;have hfl:=each_flat hbe;have hszW:=hWW.2.size;go_wp2_with (at_builtin;first
    | (refine append_sts rfl _ _ rfl hown rfl rfl hob hon (by omega) (by omega) ?_;intro A5 c5 w5 ho5 hg5 hv5;have hk5:=hg5.size;have hB5 : ∀ b,(Value.slice A5 (1 + body.length) c5).ownBlock = some b → w.heap.size ≤ b:=(fun b hb=>hv5.elim (fun e=>hOB b (e.symm.trans hb)) (fun e=>by rw [hb] at e;injection e with e;omega));have HB5:=Lib.hid hB5;have HO5:=Lib.hid ho5;have HG5:=Lib.hid hg5;clear hB5 hv5)
    | (refine append_cells Try.underlying98 info_stmt rfl (by omega) (by omega) rfl _ _ rfl [.int .i64 7,.string A1.1,.int .i64 0,.int .i64 0,.string ⟨#[]⟩,.slice none 0 0,.slice none 0 0,.slice none 0 0] HO5.out rfl rfl rfl (by simp [Value.oneCell']) (by omega) (by omega) ?_;intro A6 c6 w6 ho6 hg6 hv6))
   have hk6:=hg6.size;have hF6 : Fr (· = g) w w6:=(hWW.2.grown HG5.out (fun b hb hl=>absurd (hOB b hb) (by omega))).grown hg6 (fun b hb hl=>absurd (HB5.out b hb) (by omega));have hc6 : CurAt w6 g O2.2 :=
    (hWW.1.fr ((Fr.refl (fun b=>w.heap.size ≤ b) _).grown HG5.out (fun b hb hl=>hOB b hb)) (fun b hb e=>by omega)).fr ((Fr.refl (fun b=>w.heap.size ≤ b) _).grown hg6 (fun b hb hl=>HB5.out b hb)) (fun b hb e=>by omega)
   have hbe6:=EachIn.fr hF6 _ _ _ _ _ hbe (fun q h1 h2 h3 e=>by omega) hh;have hst : StsIn w6 lo w6.heap.size ([.word 6 A1.1] ++ body ++ [St.word 7 A1.1]) (.slice A6 (1 + body.length + 1) c6):=by
    have el : (([.word 6 A1.1] : List St) ++ body ++ [St.word 7 A1.1]).length = 1 + body.length + 1:=by simp;omega
    have hflat : (([[.int .i64 6,.string A1.1,.int .i64 0,.int .i64 0,.string ⟨#[]⟩,.slice none 0 0,.slice none 0 0,.slice none 0 0]] : List (List Value)) ++ cssb ++ ([[.int .i64 7,.string A1.1,.int .i64 0,.int .i64 0,.string ⟨#[]⟩,.slice none 0 0,.slice none 0 0,.slice none 0 0]] : List (List Value))).flatten = ([[.int .i64 6,.string A1.1,.int .i64 0,.int .i64 0,.string ⟨#[]⟩,.slice none 0 0,.slice none 0 0,.slice none 0 0]] : List (List Value)).flatten ++ cssb.flatten ++ ([.int .i64 7,.string A1.1,.int .i64 0,.int .i64 0,.string ⟨#[]⟩,.slice none 0 0,.slice none 0 0,.slice none 0 0] : List Value):=by simp
    have ho6' : w6.ownsRow lo 106 8 (.slice A6 (([.word 6 A1.1] : List St) ++ body ++ [St.word 7 A1.1]).length c6) (([.word 6 A1.1] : List St) ++ body ++ [St.word 7 A1.1]).length (([[.int .i64 6,.string A1.1,.int .i64 0,.int .i64 0,.string ⟨#[]⟩,.slice none 0 0,.slice none 0 0,.slice none 0 0]] : List (List Value)) ++ cssb ++ ([[.int .i64 7,.string A1.1,.int .i64 0,.int .i64 0,.string ⟨#[]⟩,.slice none 0 0,.slice none 0 0,.slice none 0 0]] : List (List Value))).flatten:=by
     rw [el,hflat];exact own_mono ho6 (by omega)
    have:=StsIn.shut ho6' (hi:=w6.heap.size) (fun q hq=>by
     have hq1 : w.heap.size ≤ q ∧ q < w6.heap.size:=by
      rw [el] at hq;obtain ⟨gq,eq,h1,h2⟩:=own_someH ho6 (by omega);rw [eq] at hq;injection hq with hq;try simp only at hq
      omega
     exact ⟨hq1.2,EachIn.mono _ _ _ _ _ _ _ (EachIn.app _ _ _ _ hi _ _ _ (EachIn.app _ _ _ _ lo _ _ _ (EachIn.one (word_in _ lo 6 A1.1) (Nat.le_refl _) (Nat.le_refl _) (Nat.le_refl _) (.inr (by omega))) (EachIn.high _ _ _ _ _ _ hbe6 (by omega))) (EachIn.one (word_in _ hi 7 A1.1) (Nat.le_refl _) (Nat.le_refl _) (Nat.le_refl _) (.inr (by omega)))) (Nat.le_refl _) (by omega)⟩)
    rwa [el] at this
   have HFI:=Lib.hid (show StsNew w lo g (guardD body s) (.returned (.slice A6 (1 + body.length + 1) c6)) w6 from by
    rw [HE.out];have el : (([.word 6 A1.1] : List St) ++ body ++ [St.word 7 A1.1]).length = 1 + body.length + 1:=by simp;omega
    refine ⟨A6,c6,?_,?_,hc6,hF6⟩
    ·
     show Ending.returned (.slice A6 (1 + body.length + 1) c6) = .returned (.slice A6 (([.word 6 A1.1] : List St) ++ body ++ [St.word 7 A1.1]).length c6)
     rw [el]
    ·
     show StsIn w6 lo w6.heap.size ([.word 6 A1.1] ++ body ++ [St.word 7 A1.1]) (.slice A6 (([.word 6 A1.1] : List St) ++ body ++ [St.word 7 A1.1]).length c6)
     rw [el];exact hst)
   clear hst hbe6 hc6 hF6;go_wp2_with fail
   go_ret
   exact HFI.out
end Go.Proofs.Ytkgoajnnkimkaaa
