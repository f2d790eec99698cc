/- Contract of the reference's l04List: drawn statements; l04Stmt and l04List for every depth. -/
import Derived.Test.YtkgoajnnkimkaaaH8
import Derived.Deep.LoopGhost
set_option linter.unusedSimpArgs false
set_option linter.unusedVariables false
set_option maxRecDepth 100000
set_option maxHeartbeats 16000000
namespace Go.Proofs.Ytkgoajnnkimkaaa
open Go.ChangeShapes Go.WideShapes Go.ChangeAt Go.RowKit
theorem info_stmt : (Try.prog.info? 106).map (fun i=>(i.zero,i.size,i.bytes)) = some (some (.agg #[.int .i64 0,.string ⟨#[]⟩,.int .i64 0,.int .i64 0,.string ⟨#[]⟩,.slice none 0 0,.slice none 0 0,.slice none 0 0]),8,128):=by kernel_rfl
theorem stIn_form {w : World} {lo hi : Nat} {x : St} {cs : List Value} (h : StIn w lo hi x cs) : ∃ k nm a b s A1 n1 c1 A2 n2 c2 A3 n3 c3,cs = [.int .i64 k,.string nm,.int .i64 a,.int .i64 b,.string s,.slice A1 n1 c1,.slice A2 n2 c2,.slice A3 n3 c3]:=by
 cases x with
 | set x t=>simp only [StIn] at h;obtain ⟨A,c,rfl,_⟩:=h;exact ⟨_,_,_,_,_,_,_,_,_,_,_,_,_,_,rfl⟩
 | word k x=>simp only [StIn] at h;rw [h];exact ⟨_,_,_,_,_,_,_,_,_,_,_,_,_,_,rfl⟩
 | skip=>simp only [StIn] at h;rw [h];exact ⟨_,_,_,_,_,_,_,_,_,_,_,_,_,_,rfl⟩
 | loop t b =>
  rw [stIn_loop] at h;obtain ⟨A,c,vb,m,rfl,_,_,_,h⟩:=h;obtain ⟨A2,c2,rfl⟩:=h.form;exact ⟨_,_,_,_,_,_,_,_,_,_,_,_,_,_,rfl⟩
 | cond t b e =>
  rw [stIn_cond] at h;obtain ⟨A,c,vb,ve,m,n,rfl,_,_,_,_,h,h'⟩:=h;obtain ⟨A2,c2,rfl⟩:=h.form;obtain ⟨A3,c3,rfl⟩:=h'.form;exact ⟨_,_,_,_,_,_,_,_,_,_,_,_,_,_,rfl⟩
theorem loopD_yes {f : Cr → St × Cr} {j : Nat} {s : Cr} (hj : j ≤ 3) (h : j < (belowD 4 s).1) : loopD f (4 - j) j s = ((f (belowD 4 s).2).1 :: (loopD f (4 - (j + 1)) (j + 1) (f (belowD 4 s).2).2).1,(loopD f (4 - (j + 1)) (j + 1) (f (belowD 4 s).2).2).2):=by
 obtain ⟨m,hm⟩ : ∃ m,4 - j = m + 1:=⟨3 - j,by omega⟩
 have e : 4 - (j + 1) = m:=by omega
 rw [hm,e];exact if_pos h
theorem loopD_no {f : Cr → St × Cr} {j : Nat} {s : Cr} (hj : j ≤ 3) (h : ¬ j < (belowD 4 s).1) : loopD f (4 - j) j s = ([],(belowD 4 s).2):=by
 obtain ⟨m,hm⟩ : ∃ m,4 - j = m + 1:=⟨3 - j,by omega⟩
 rw [hm];exact if_neg h
theorem own_someH {w : World} {base n c : Nat} {t : TypeId} {size : Nat} {A : Option Addr} {xs : List Value} (h : w.ownsRow base t size (.slice A n c) n xs) (hn : 0 < n) : ∃ g,A = some ⟨g,0,none⟩ ∧ base ≤ g ∧ g < w.heap.size:=by
 rcases h.2 with ⟨e,h0⟩ | ⟨g,cap,cur,e,hg,hh,_⟩
 · omega
 · injection e with e1 e2 e3;exact ⟨g,e1,hg,(Array.getElem?_eq_some_iff.1 hh).1⟩
theorem each_more {wr w1 w2 w3 : World} {g gb gb' lo : Nat} {done : List St} {x : St} {css : List (List Value)} {cs : List Value} (he : EachIn wr gb lo wr.heap.size done css) (hx : StIn w2 w1.heap.size w2.heap.size x cs)
  (hf1 : Fr (· = g) wr w1) (hf2 : Fr (· = g) w1 w2) (hg : w2.grownBy w3 (some gb)) (hgl : g < lo) (hgb : gb < wr.heap.size) (hgb' : gb' = gb ∨ gb' = w2.heap.size + 1) : EachIn w3 gb' lo w3.heap.size (done ++ [x]) (css ++ [cs]):=by
 have hs1:=hf1.size;have hs2:=hf2.size;have hs3:=hg.size;have hF3 : Fr (· = gb) w2 w3:=(Fr.refl (· = gb) w2).grown hg (fun b hb _=>by injection hb with hb;exact hb.symm);have hF : Fr (fun b=>b = g ∨ b = gb) wr w3:=((hf1.trans hf2).mono (fun b _ h=>.inl h)).trans (hF3.mono (fun b _ h=>.inr h));have h1:=EachIn.fr hF done gb lo wr.heap.size css he (fun b q1 q2 q3 h=>by omega) (Nat.le_refl _);have h2:=StIn.fr hF3 x _ _ cs hx (fun b q1 q2 e=>by omega) (Nat.le_refl _);rcases hgb' with rfl | rfl
 · exact EachIn.app _ _ _ _ wr.heap.size _ _ _ h1 (EachIn.one h2 hs1 hs2 hs3 (.inl (by omega)))
 · exact EachIn.app _ _ _ _ wr.heap.size _ _ _ (EachIn.high _ _ _ _ _ _ h1 (by omega)) (EachIn.one h2 hs1 hs2 hs3 (.inr (by omega)))
theorem l04List_of (d : Nat) (ih : ∀ (g : Nat) (s : Cr) (w : World), CurAt w g s → Calls Try.prog 85 #[.pointer (some ⟨g, 0, none⟩), .int .i64 (d : Int)] w (StDrawn w g (stmtD d s)))
  (g : Nat) (s : Cr) (w : World) (hc : CurAt w g s) : Calls Try.prog 62 #[.pointer (some ⟨g,0,none⟩),.int .i64 (d : Int)] w (StsDrawn w g (listD d s)):=by
 have HB:=Lib.hid (fun s W (hc : CurAt W g s)=>(show Calls Try.prog 36 #[.pointer (some ⟨g,0,none⟩),.int .i64 4] W fun e w'=>e = .returned (.int .i64 (((belowD 4 s).1 : Nat) : Int)) ∧ Went W g (belowD 4 s).2 w' from l01Below_any 4 g s W hc (by omega) (by omega)));have HI:=Lib.hid ih;have hgw:=hc.lt;have hW0 : Went w g s (w.alloc (.cells #[] 106)):=⟨hc.below (below_alloc0 _ _),Fr.of_below (below_alloc0 _ _)⟩
 have hlit:=World.ownsRow_lit (base:=w.heap.size) (e := 106) (size:=8) w #[] 0 (Nat.le_refl _) (by simp) rfl;have hs0 : (w.alloc (.cells #[] 106)).heap.size = w.heap.size + 1:=by simp
 clear hc ih
 go_enter Try.func62, Try.ntmps62
 go_wp2_with fail
 generalize w.alloc (.cells #[] 106) = W at hW0 hlit hs0 ⊢;go_loopg [5,6] 4 (fun l out i wr=>∃ (j : Nat) (done : List St) (sj : Cr) (gb cap : Nat) (css : List (List Value)),j ≤ 3 ∧ l = 4 - j ∧ i = .int .i64 j ∧ done.length = j ∧
  listD d s = (done ++ (loopD (stmtD d) (4 - j) j sj).1,(loopD (stmtD d) (4 - j) j sj).2) ∧ out = .slice (some ⟨gb,0,none⟩) j cap ∧ w.heap.size ≤ gb ∧ gb < wr.heap.size ∧
  wr.ownsRow w.heap.size 106 8 out j css.flatten ∧ EachIn wr gb w.heap.size wr.heap.size done css ∧ Went w g sj wr)
 case atStart=>exact ⟨0,[],s,w.heap.size,0,[],by omega,rfl,rfl,rfl,rfl,rfl,Nat.le_refl _,by omega,by simpa using hlit,by rw [each_nil];exact ⟨rfl,by omega⟩,hW0⟩
 case round =>
  clear hW0 hlit hs0;obtain ⟨j,done,sj,gb,cap,css,hj,rfl,rfl,hdl,hL,rfl,hgb0,hgb1,ho,he,hw⟩:=hrel;have HL:=Lib.hid hL;have hlt4:=belowD_lt (n:=4) sj (by omega);clear hL;go_wp2_with fail
  refine (HB.out sj wr hw.1).mono ?_;rintro e w1 ⟨rfl,hw1⟩;have hsz1:=hw1.2.size;have hszr:=hw.2.size;by_cases hlt : j < (belowD 4 sj).1
  ·
   have HY:=Lib.hid (HL.out.trans (by rw [loopD_yes (f:=stmtD d) hj hlt]));have z1 : (j : Int) < (((belowD 4 sj).1 : Nat) : Int):=by omega
   go_wp2_with fail
   refine (HI.out g _ w1 hw1.1).mono ?_;rintro e w2 ⟨cs,rfl,hx,hw2⟩;have hsz2:=hw2.2.size;obtain ⟨k,nm,a,b,t,A1,n1,c1,A2,n2,c2,A3,n3,c3,rfl⟩:=stIn_form hx;have ho2 : w2.ownsRow w.heap.size 106 8 (.slice (some ⟨gb,0,none⟩) j cap) j css.flatten:=(hw1.2.trans hw2.2).own ho (fun b hb e=>by injection hb with hb;simp only at hb;omega);go_wp2_with (at_builtin;refine append_cells Try.underlying98 info_stmt rfl (by omega) (by omega) rfl _ _ rfl [.int .i64 k,.string nm,.int .i64 a,.int .i64 b,.string t,.slice A1 n1 c1,.slice A2 n2 c2,.slice A3 n3 c3] ho2 rfl rfl rfl (by simp [Value.oneCell']) (by omega) (by omega) ?_;intro A4 c4 w4 ho4 hg4 hv4)
   obtain ⟨gb',rfl,hgb2,hgb3⟩:=own_someH ho4 (by omega);have hgb4 : gb' = gb ∨ gb' = w2.heap.size + 1:=hv4.imp (fun h=>by injection h) (fun h=>by injection h);have hE:=each_more he hx hw1.2 hw2.2 hg4 hgw hgb1 hgb4;have hsz4:=hg4.size;have hF4 : Fr (· = g) w w4:=((hw.2.trans hw1.2).trans hw2.2).grown hg4 (fun b hb h=>by injection hb with hb;simp only at hb;omega);have hc4 : CurAt w4 g (stmtD d (belowD 4 sj).2).2:=hw2.1.fr ((Fr.refl (· = gb) w2).grown hg4 (fun b hb _=>by injection hb with hb;exact hb.symm)) (fun b hb e=>by omega);go_roundg (4 - (j + 1))
   case measure=>omega
   case rel => exact ⟨j + 1, done ++ [(stmtD d (belowD 4 sj).2).1], (stmtD d (belowD 4 sj).2).2, gb', c4, css ++ [[.int .i64 k, .string nm, .int .i64 a, .int .i64 b, .string t, .slice A1 n1 c1, .slice A2 n2 c2, .slice A3 n3 c3]], by omega, rfl, by go_num, by simp [hdl],
     by rw [HY.out];simp,rfl,hgb2,hgb3,by rw [List.flatten_append];simpa using ho4,hE,hc4,hF4⟩
  ·
   have HN:=Lib.hid (HL.out.trans (by rw [loopD_no (f:=stmtD d) hj hlt]));have z1 : ¬ (j : Int) < (((belowD 4 sj).1 : Nat) : Int):=by omega
   have HFI:=Lib.hid (show StsDrawn w g (listD d s) (.returned (.slice (some ⟨gb,0,none⟩) j cap)) w1 from by
    rw [HN.out];refine ⟨_,rfl,?_,hw.trans hw1⟩;simp only [List.append_nil];refine .inr ⟨gb,cap,css,by rw [hdl],hgb0,by omega,?_,?_⟩
    · rw [hdl];exact hw1.2.own ho (fun b hb e=>by injection hb with hb;simp only at hb;omega)
    · exact EachIn.mono _ _ _ _ _ _ _ (EachIn.fr hw1.2 _ _ _ _ _ he (fun b q1 q2 q3 e=>by omega) (Nat.le_refl _)) (Nat.le_refl _) hsz1)
   go_wp2_with fail
   go_ret
   exact HFI.out
theorem l04_any : ∀ (d : Nat), d ≤ 100 → (∀ (g : Nat) (s : Cr) (w : World), CurAt w g s → Calls Try.prog 85 #[.pointer (some ⟨g, 0, none⟩), .int .i64 (d : Int)] w (StDrawn w g (stmtD d s))) ∧
  (∀ (g : Nat) (s : Cr) (w : World),CurAt w g s → Calls Try.prog 62 #[.pointer (some ⟨g,0,none⟩),.int .i64 (d : Int)] w (StsDrawn w g (listD d s))):=by
 intro d;induction d with
 | zero =>
  intro _;exact ⟨fun g s w hc=>l04Stmt_zero g s w hc,fun g s w hc=>l04List_of 0 (fun g s w hc=>l04Stmt_zero g s w hc) g s w hc⟩
 | succ d ih =>
  intro hd;have h:=fun g s w hc=>l04Stmt_succ d (by omega) (ih (by omega)).2 g s w hc;exact ⟨h,fun g s w hc=>l04List_of (d + 1) h g s w hc⟩
theorem l04List_any (d : Nat) (hd : d ≤ 100) (g : Nat) (s : Cr) (w : World) (hc : CurAt w g s) : Calls Try.prog 62 #[.pointer (some ⟨g,0,none⟩),.int .i64 (d : Int)] w (StsDrawn w g (listD d s)):=(l04_any d hd).2 g s w hc
end Go.Proofs.Ytkgoajnnkimkaaa
