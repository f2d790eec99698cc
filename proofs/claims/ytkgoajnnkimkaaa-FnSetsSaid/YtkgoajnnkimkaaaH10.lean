/- Reading drawn statements; contract of the reference's l04Count. -/
import Derived.Test.YtkgoajnnkimkaaaH8
import Derived.Deep.LoopGhost
set_option linter.unusedSimpArgs false
set_option linter.unusedVariables false
set_option maxRecDepth 100000
set_option maxHeartbeats 16000000
namespace Go.Proofs.Ytkgoajnnkimkaaa
open Go.ChangeShapes Go.WideShapes Go.ChangeAt Go.RowKit
def St.kind : St → Int
 | .set _ _=>1
 | .word k _=>k
 | .skip=>8
 | .loop _ _=>3
 | .cond _ _ _=>2
def St.name : St → ByteArray
 | .set x _=>x
 | .word _ x=>x
 | _=>⟨#[]⟩
def St.term : St → Tm
 | .set _ t=>t
 | .loop t _=>t
 | .cond t _ _=>t
 | _=>zeroT
def St.body : St → List St
 | .loop _ b=>b
 | .cond _ b _=>b
 | _=>[]
def St.els : St → List St
 | .cond _ _ e=>e
 | _=>[]
theorem subs_cnt (x : St) : St.cntL x.body + St.cntL x.els + 1 = St.cnt x:=by
 cases x <;> simp only [St.body,St.els,St.cnt,St.cntL] <;> omega
theorem stsIn_nil (w : World) (lo hi : Nat) : StsIn w lo hi [] nilV:=.inl ⟨rfl,rfl⟩
theorem stIn_all {w : World} {lo hi : Nat} {x : St} {cs : List Value} (h : StIn w lo hi x cs) : ∃ A c Ab cb Ae ce, cs = [.int .i64 x.kind, .string x.name, .int .i64 x.term.kind, .int .i64 x.term.num, .string x.term.name, .slice A x.term.kids.length c, .slice Ab x.body.length cb, .slice Ae x.els.length ce] ∧
  KidsAt (High w lo) hi A x.term.kids ∧ StsIn w lo hi x.body (.slice Ab x.body.length cb) ∧ StsIn w lo hi x.els (.slice Ae x.els.length ce):=by
 cases x with
 | set x t =>
  simp only [StIn] at h;obtain ⟨A,c,rfl,hk⟩:=h;exact ⟨A,c,none,0,none,0,rfl,hk,stsIn_nil _ _ _,stsIn_nil _ _ _⟩
 | word k x =>
  simp only [StIn] at h;subst h;exact ⟨none,0,none,0,none,0,rfl,kids_nil _ _ _,stsIn_nil _ _ _,stsIn_nil _ _ _⟩
 | skip =>
  simp only [StIn] at h;subst h;exact ⟨none,0,none,0,none,0,rfl,kids_nil _ _ _,stsIn_nil _ _ _,stsIn_nil _ _ _⟩
 | loop t b =>
  rw [stIn_loop] at h;obtain ⟨A,c,vb,m,rfl,h1,h2,hk,hb⟩:=h;obtain ⟨Ab,cb,rfl⟩:=hb.form;exact ⟨A,c,Ab,cb,none,0,rfl,kids_mono hk (Nat.le_refl _) h2,hb.mono h1 (Nat.le_refl _),stsIn_nil _ _ _⟩
 | cond t b e =>
  rw [stIn_cond] at h;obtain ⟨A,c,vb,ve,m,n,rfl,h1,h2,h3,hk,hb,he⟩:=h;obtain ⟨Ab,cb,rfl⟩:=hb.form;obtain ⟨Ae,ce,rfl⟩:=he.form;exact ⟨A,c,Ab,cb,Ae,ce,rfl,kids_mono hk (Nat.le_refl _) (by omega),hb.mono h1 h3,he.mono (by omega) (Nat.le_refl _)⟩
theorem flat_get : ∀ (css : List (List Value)),(∀ cs ∈ css,cs.length = 8) → ∀ (i j : Nat) (hi : i < css.length),j < 8 → css.flatten[i * 8 + j]? = css[i][j]?
 | [],h,i,j,hi,hj=>by simp at hi
 | c :: r,h,i,j,hi,hj=>by
  have hc:=h c (by simp);cases i with
  | zero =>
   simp only [List.flatten_cons,Nat.zero_mul,Nat.zero_add,List.getElem_cons_zero];rw [List.getElem?_append_left (by omega)]
  | succ i =>
   simp only [List.flatten_cons,List.getElem_cons_succ];rw [List.getElem?_append_right (by omega)];have e : (i + 1) * 8 + j - c.length = i * 8 + j:=by omega
   rw [e];exact flat_get r (fun x hx=>h x (by simp [hx])) i j (by simpa using hi) hj
theorem StsIn.get {w : World} {lo hi : Nat} {ss : List St} {v : Value} (h : StsIn w lo hi ss v) {i : Nat} (hi' : i < ss.length) : ∃ ad cap A c Ab cb Ae ce m n, v = .slice (some ad) ss.length cap ∧ ad.off = 0 ∧ ad.spot = none ∧ lo ≤ ad.block ∧ ad.block < hi ∧
  w.cell? (ad.add (i * 8)) = some (.int .i64 ss[i].kind) ∧ w.cell? ⟨(ad.add (i * 8)).block,(ad.add (i * 8)).off + 1,none⟩ = some (.string ss[i].name) ∧
  w.cell? ⟨(ad.add (i * 8)).block,(ad.add (i * 8)).off + 2,none⟩ = some (.int .i64 ss[i].term.kind) ∧ w.cell? ⟨(ad.add (i * 8)).block,(ad.add (i * 8)).off + 3,none⟩ = some (.int .i64 ss[i].term.num) ∧
  w.cell? ⟨(ad.add (i * 8)).block,(ad.add (i * 8)).off + 4,none⟩ = some (.string ss[i].term.name) ∧ w.cell? ⟨(ad.add (i * 8)).block,(ad.add (i * 8)).off + 5,none⟩ = some (.slice A ss[i].term.kids.length c) ∧
  w.cell? ⟨(ad.add (i * 8)).block,(ad.add (i * 8)).off + 6,none⟩ = some (.slice Ab ss[i].body.length cb) ∧ w.cell? ⟨(ad.add (i * 8)).block,(ad.add (i * 8)).off + 7,none⟩ = some (.slice Ae ss[i].els.length ce) ∧
  lo ≤ m ∧ m ≤ n ∧ n ≤ hi ∧ (ad.block < m ∨ n ≤ ad.block) ∧ KidsAt (High w m) n A ss[i].term.kids ∧ StsIn w m n ss[i].body (.slice Ab ss[i].body.length cb) ∧ StsIn w m n ss[i].els (.slice Ae ss[i].els.length ce):=by
 rcases h with ⟨_,rfl⟩ | ⟨g,cap,css,rfl,h1,h2,ho,he⟩
 · simp at hi'
 ·
  have hl:=each_len _ _ _ _ _ he;have hc : i < css.length:=by omega
  obtain ⟨m,n,q1,q2,q3,q4,hs⟩:=each_get _ _ _ _ _ he i hi' hc;obtain ⟨A,c,Ab,cb,Ae,ce,e,hk,hb,hel⟩:=stIn_all hs;have hr:=own_rd ho;have get : ∀ j u,j < 8 → css[i][j]? = some u → w.cell? ((⟨g,0,none⟩ : Addr).add (i * 8 + j)) = some u:=fun j u hj hu=>by
   obtain ⟨ad,ea,_,hcell⟩:=hr (i * 8 + j) u (by rw [flat_get css hl.2 i j hc hj];exact hu);injection ea with ea;subst ea;exact hcell
  rw [e] at get
  have get' : ∀ j u, 0 < j → j < 8 → ([.int .i64 ss[i].kind, .string ss[i].name, .int .i64 ss[i].term.kind, .int .i64 ss[i].term.num, .string ss[i].term.name, .slice A ss[i].term.kids.length c, .slice Ab ss[i].body.length cb, .slice Ae ss[i].els.length ce] : List Value)[j]? = some u →
    w.cell? ⟨((⟨g,0,none⟩ : Addr).add (i * 8)).block,((⟨g,0,none⟩ : Addr).add (i * 8)).off + j,none⟩ = some u:=fun j u h0 hj hu=>by
   have:=get j u hj hu
   rwa [add_pos_eq _ _ j h0] at this
  exact ⟨⟨g,0,none⟩,cap,A,c,Ab,cb,Ae,ce,m,n,rfl,rfl,rfl,h1,h2,get 0 _ (by omega) rfl,get' 1 _ (by omega) (by omega) rfl,get' 2 _ (by omega) (by omega) rfl,get' 3 _ (by omega) (by omega) rfl,get' 4 _ (by omega) (by omega) rfl,
   get' 5 _ (by omega) (by omega) rfl,get' 6 _ (by omega) (by omega) rfl,get' 7 _ (by omega) (by omega) rfl,q1,q2,q3,q4,hk,hb,hel⟩
mutual
def countS : St → Int → Int
 | .loop t b,l=>countL b (l - 1)
 | .cond t b e,l=>countL e (countL b (l - 1))
 | _,l=>l - 1
def countL : List St → Int → Int
 | [],l=>l
 | x :: r,l=>if 0 ≤ l then countL r (countS x l) else l
end
theorem countS_eq (x : St) (l : Int) : countS x l = countL x.els (countL x.body (l - 1)):=by
 cases x <;> simp only [countS,St.body,St.els,countL]
mutual
theorem countS_ok : ∀ (x : St) (l : Int),0 ≤ l → -1 ≤ countS x l ∧ countS x l ≤ l ∧ ((St.cnt x : Int) ≤ l → countS x l = l - St.cnt x) ∧ (l < (St.cnt x : Int) → countS x l < 0)
 | .set x t,l,h=>by simp only [countS,St.cnt];omega
 | .word k x,l,h=>by simp only [countS,St.cnt];omega
 | .skip,l,h=>by simp only [countS,St.cnt];omega
 | .loop t b,l,h=>by
  have:=countL_ok b (l - 1) (by omega);simp only [countS,St.cnt];omega
 | .cond t b e,l,h=>by
  have h1:=countL_ok b (l - 1) (by omega);have h2:=countL_ok e (countL b (l - 1)) h1.1;simp only [countS,St.cnt];omega
theorem countL_ok : ∀ (ss : List St) (l : Int),-1 ≤ l → -1 ≤ countL ss l ∧ countL ss l ≤ l ∧ ((St.cntL ss : Int) ≤ l → countL ss l = l - St.cntL ss) ∧ (l < (St.cntL ss : Int) → countL ss l < 0)
 | [],l,h=>by simp only [countL,St.cntL];omega
 | x :: r,l,h=>by
  simp only [countL,St.cntL];split
  · rename_i h0;have h1:=countS_ok x l h0;have h2:=countL_ok r (countS x l) h1.1;omega
  · omega
end
theorem countL_drop {ss : List St} {j : Nat} (h : j < ss.length) (l : Int) (h0 : 0 ≤ l) : countL (ss.drop j) l = countL (ss.drop (j + 1)) (countS ss[j] l):=by
 rw [List.drop_eq_getElem_cons h];simp only [countL];rw [if_pos h0]
theorem countL_stop (ss : List St) (l : Int) (h0 : ¬ 0 ≤ l) : countL ss l = l:=by
 cases ss with
 | nil=>simp only [countL]
 | cons x r=>simp only [countL];rw [if_neg h0]
theorem cnt_le {ss : List St} : ∀ {j : Nat} (h : j < ss.length),St.cnt ss[j] ≤ St.cntL ss:=by
 induction ss with
 | nil=>intro j h;simp at h
 | cons x r ih =>
  intro j h;cases j with
  | zero=>simp only [List.getElem_cons_zero,St.cntL];omega
  | succ j =>
   have:=ih (j:=j) (by simpa using h);simp only [List.getElem_cons_succ,St.cntL];omega
theorem Drew.fr {w w' : World} (h : Drew w w') (S : Nat → Prop) : Fr S w w':=by
 obtain ⟨n,rfl⟩:=h;exact (Fr.refl S w).drewN n
theorem drew_n (w : World) (n : Nat) : Drew w (w.drewN n):=⟨n,rfl⟩
def CountSaid (ss : List St) : Prop:=∀ (lo hi : Nat) (v : Value) (l : Int) (w : World),StsIn w lo hi ss v → -1 ≤ l → l ≤ 100 → hi ≤ w.heap.size → Calls Try.prog 63 #[v,.int .i64 l] w fun e w'=>e = .returned (.int .i64 (countL ss l)) ∧ ∃ m,w' = w.drewN m
theorem l04Count_of (ss : List St) (hn : St.cntL ss ≤ 1048576) (ih : ∀ zs : List St,St.cntL zs < St.cntL ss → CountSaid zs) : CountSaid ss:=by
 intro lo hi v l w h hl hl2 hh;obtain ⟨A0,c0,rfl⟩:=h.form;have HI:=Lib.hid ih;have HST:=Lib.hid (fun V (hD : Drew w V)=>h.fr (hD.fr (fun _=>False)) (fun _ _ _ h=>h) hh);have hsl:=cntL_len ss;clear ih h
 go_enter Try.func63, Try.ntmps63
 go_wp2_with fail
 go_loopg [1,5] ss.length (fun m q i wr=>∃ (j : Nat) (lj : Int),j ≤ ss.length ∧ m = ss.length - j ∧ i = .int .i64 j ∧ q = .int .i64 lj ∧ -1 ≤ lj ∧ lj ≤ 100 ∧ countL ss l = countL (ss.drop j) lj ∧ Drew w wr)
 case atStart=>exact ⟨0,l,by omega,by omega,rfl,rfl,hl,hl2,by simp,Drew.refl _⟩
 case round =>
  obtain ⟨j,lj,hj,rfl,rfl,rfl,hlj,hlj2,hcl,hD⟩:=hrel;by_cases hlt : j < ss.length
  ·
   have y1 : (j : Int) < (ss.length : Int):=by omega
   have y2 : (0 : Int) ≤ (j : Int):=by omega
   by_cases h0 : 0 ≤ lj
   ·
    have HCL:=Lib.hid (hcl.trans (countL_drop hlt lj h0));have hse:=countS_eq ss[j] lj;have hco:=countS_ok ss[j] lj h0;have hcb:=countL_ok ss[j].body (lj - 1) (by omega);have hsub:=subs_cnt ss[j];have hle : St.cnt ss[j] ≤ St.cntL ss:=cnt_le hlt;have hbl:=cntL_len ss[j].body;have hel:=cntL_len ss[j].els;have hszD:=hD.size;obtain ⟨ad,cap,A,c,Ab,cb,Ae,ce,m,n',e,eo,es,_,_,k0,k1,k2,k3,k4,k5,k6,k7,q1,q2,q3,q4,hk,hb,he⟩:=(HST.out _ hD).get hlt;injection e with e1 e2 e3;subst e1 e3;have HC1:=Lib.hid (fun V (hV : Drew wr V)=>HI.out ss[j].body (by omega) m n' (.slice Ab ss[j].body.length cb) (lj - 1) V (hb.fr (hV.fr (fun _=>False)) (fun _ _ _ h=>h) (by omega)) (by omega) (by omega) (by have:=hV.size;omega));have HC2:=Lib.hid (fun V (hV : Drew wr V)=>HI.out ss[j].els (by omega) m n' (.slice Ae ss[j].els.length ce) (countL ss[j].body (lj - 1)) V (he.fr (hV.fr (fun _=>False)) (fun _ _ _ h=>h) (by omega)) (by omega) (by omega) (by have:=hV.size;omega));rw [← hse] at HC2;have HD:=Lib.hid hD;have hco1:=hco.1;have hco2:=hco.2.1;generalize countL ss[j].body (lj - 1) = l1 at HC1 HC2;generalize countS ss[j] lj = l2 at HC2 HCL hco1 hco2;clear hcl k0 k1 k2 k3 k4 k5 hk hb he hD hse hco hcb hsub hle hbl hel es eo;go_wp2_with fail
    go_quiet ((go_at_call 63;first | (with_reducible exact quiet_more (HC1.out _ (drew_n _ _))) | (with_reducible exact quiet_more (HC2.out _ (drew_n _ _)))))
    go_wp2
    go_roundg (ss.length - (j + 1))
    case measure=>omega
    case rel=>exact ⟨j + 1,l2,by omega,rfl,by go_num,rfl,hco1,by omega,HCL.out,HD.out.more _⟩
   ·
    have HS:=Lib.hid (hcl.trans (countL_stop _ lj h0));clear hcl;go_wp2_with fail
    go_ret
    exact ⟨ret_int HS.out.symm,hD⟩
  ·
   obtain rfl : j = ss.length:=by omega
   have HS:=Lib.hid (show countL ss l = lj from by rw [hcl,List.drop_length];simp only [countL]);clear hcl;go_wp2_with fail
   go_ret
   exact ⟨ret_int HS.out.symm,hD⟩
theorem l04Count_any (ss : List St) (hn : St.cntL ss ≤ 1048576) : CountSaid ss:=by
 have : ∀ (n : Nat) (ss : List St),St.cntL ss < n → St.cntL ss ≤ 1048576 → CountSaid ss:=by
  intro n;induction n with
  | zero=>intro ss h;omega
  | succ n ih=>intro ss h hn;exact l04Count_of ss hn fun zs hz=>ih zs (by omega) (by omega)
 exact this _ ss (Nat.lt_succ_self _) hn
end Go.Proofs.Ytkgoajnnkimkaaa
