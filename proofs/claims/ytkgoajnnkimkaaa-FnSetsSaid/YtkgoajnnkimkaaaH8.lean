/- Contracts of the reference's l04Stmt, one deeper, and of l04List: drawn statements. -/
import Derived.Test.YtkgoajnnkimkaaaH7
set_option linter.unusedSimpArgs false
set_option linter.unusedVariables false
set_option maxRecDepth 100000
set_option maxHeartbeats 16000000
namespace Go.Proofs.Ytkgoajnnkimkaaa
open Go.ChangeShapes Go.WideShapes Go.ChangeAt Go.RowKit
section
variable {w W : World} {g r q : Nat} {s : Cr} {cs : Array Value} {t t' : TypeId}
theorem RC.second (h : RC w W g s r cs t) (cs' : Array Value) (t' : TypeId) : RC w (W.alloc (.cells cs' t')) g s W.heap.size cs' t' :=
 ⟨(h.alloc _).went,heap_alloc_new W _,h.went.2.size,h.hg⟩
theorem RC.other (h : RC w W g s r cs t) (hq : w.heap.size ≤ q) (hne : r ≠ q) (j : Nat) (v : Value) : RC w (W.setCell ⟨q,j,none⟩ v) g s r cs t:=by
 have hr:=h.hr;have hg:=h.hg;have hf : Fr (· = q) W (W.setCell ⟨q,j,none⟩ v):=Fr.set (S:=(· = q)) (Fr.refl _ _) (a:=⟨q,j,none⟩) (fun _=>rfl) v;exact ⟨⟨h.went.1.fr hf (fun b hb e=>by omega),h.went.2.set (a:=⟨q,j,none⟩) (fun hlt=>absurd hlt (by simp only;omega)) v⟩,set_row_other h.blk (a:=⟨q,j,none⟩) hne v,hr,hg⟩
theorem StsIn.form {w : World} {lo hi : Nat} {ss : List St} {v : Value} (h : StsIn w lo hi ss v) : ∃ A c,v = .slice A ss.length c:=by
 rcases h with ⟨rfl,rfl⟩ | ⟨g,cap,css,rfl,_⟩
 · exact ⟨none,0,rfl⟩
 · exact ⟨_,_,rfl⟩
theorem RC.set7 {x0 x1 x2 x3 x4 x5 x6 x7 : Value} (h : RC w W g s r #[x0,x1,x2,x3,x4,x5,x6,x7] t) (v : Value) : RC w (W.setCell ⟨r,7,none⟩ v) g s r #[x0,x1,x2,x3,x4,x5,x6,v] t:=by
 have:=h.set 7 v;simpa using this
end
theorem l04Stmt_succ (d : Nat) (hd : d ≤ 100) (ih : ∀ (g : Nat) (s : Cr) (w : World), CurAt w g s → Calls Try.prog 62 #[.pointer (some ⟨g, 0, none⟩), .int .i64 (d : Int)] w (StsDrawn w g (listD d s)))
  (g : Nat) (s : Cr) (w : World) (hc : CurAt w g s) : Calls Try.prog 85 #[.pointer (some ⟨g,0,none⟩),.int .i64 ((d : Int) + 1)] w (StDrawn w g (stmtD (d + 1) s)):=by
 have HB:=Lib.hid (fun W (hc : CurAt W g s)=>l01Below_any 14 g s W hc (by omega) (by omega));have HS:=Lib.hid (RC.start hc #[.int .i64 0,.string ⟨#[]⟩,.int .i64 0,.int .i64 0,.string ⟨#[]⟩,nilV,nilV,nilV] 106);have hlt14:=belowD_lt (n:=14) s (by omega);have HI:=Lib.hid ih;have z0 : ¬ ((d : Int) + 1 ≤ 0):=by omega
 have z9 : (d : Int) + 1 - 1 = d:=by omega
 clear hc ih;by_cases h11 : (belowD 14 s).1 < 11
 ·
  have HZ:=stmtD_simple (d:=d) s h11;by_cases h4 : (belowD 14 s).1 < 4
  ·
   have HE:=Lib.hid (HZ.trans (simpleD_set _ h4));have y0 : (((belowD 14 s).1 : Nat) : Int) < 4:=by omega
   clear HZ
   go_enter Try.func85, Try.ntmps85
   go_wp2_with fail
   refine (HB.out _ HS.out.cur).mono ?_;rintro e w1 ⟨rfl,hw1⟩;have hRC1:=HS.out.go hw1;clear hw1;have hsz1:=hRC1.lt;have hgw:=hRC1.hg;have hP:=fun (cs : Array Value) (h : cs.toList = setL3.map sv)=>(show Calls Try.prog 86 #[.pointer (some ⟨g,0,none⟩),.slice (some ⟨w1.heap.size,0,none⟩) 3 3] (w1.alloc (.cells cs 9)) fun e w'=>e = .returned (.string (pickD setL3 (belowD 14 s).2).1) ∧ Went (w1.alloc (.cells cs 9)) g (pickD setL3 (belowD 14 s).2).2 w' from
    l01Pick_any setL3 _ 3 g _ _ (hRC1.alloc _).cur (lit_rd w1 cs 9 _ h) (fun ad e=>by injection e with e;subst e;simp only;omega) (by simp [setL3]) (by simp [setL3]))
   have HP:=Lib.hid hP;have HR1:=Lib.hid hRC1;clear hP hRC1;generalize pickD setL3 (belowD 14 s).2 = nm at HP HE;go_wp2_with fail
   refine (HP.out _ rfl).mono ?_;rintro e w2 ⟨rfl,hw2⟩;have hRC2:=(HR1.out.alloc _).go hw2;have hsz2:=hw2.2.size;clear hw2;have hT:=(show Calls Try.prog 99 #[.pointer (some ⟨g,0,none⟩),.int .i64 2] w2 (TmDrawn w2 g (termD 2 nm.2)) from l03Term_any 2 (by omega) g nm.2 w2 hRC2.cur)
   have HT:=Lib.hid hT;have HR2:=Lib.hid hRC2;clear hT hRC2;generalize termD 2 nm.2 = T at HT HE;go_wp2_with fail
   refine HT.out.mono ?_;rintro e w3 ⟨A3,c3,rfl,hk3,hw3⟩;have hRC3:=HR2.out.go hw3;have hsz3:=hw3.2.size;have hsl:=HR2.out.lt;clear hw3;have c0:=hRC3.cell 0 rfl;have c1:=hRC3.cell 1 rfl;have c2:=hRC3.cell 2 rfl;have c3':=hRC3.cell 3 rfl;have c4:=hRC3.cell 4 rfl;have c5:=hRC3.cell 5 rfl;have c6:=hRC3.cell 6 rfl;have c7:=hRC3.cell 7 rfl;have f0:=hRC3.free 0;have f1:=hRC3.free 1;have f2:=hRC3.free 2;have f3:=hRC3.free 3;have f4:=hRC3.free 4;have f5:=hRC3.free 5;have f6:=hRC3.free 6;have f7:=hRC3.free 7;have HRL:=Lib.hid hRC3;clear hRC3;go_wp2_with fail
   have hfin:=HRL.out.set8 (.int .i64 1) (.string nm.1) (.int .i64 T.1.kind) (.int .i64 T.1.num) (.string T.1.name) (.slice A3 T.1.kids.length c3) (nilV) (nilV);refine bodyPost_ret (results_cell_row rfl _ _ _ _ _ _ _ rfl hfin.blk Try.underlying106 rfl (by kernel_rfl)) rfl ?_;rw [HE.out];have hF:=set8_fr w3 w.heap.size (.int .i64 1) (.string nm.1) (.int .i64 T.1.kind) (.int .i64 T.1.num) (.string T.1.name) (.slice A3 T.1.kids.length c3) (nilV) (nilV);refine ⟨_,rfl,?_,hfin.went⟩;simp only [StIn];exact ⟨A3,c3,rfl,kids_mono (kids_fr hk3 hF (fun b h1 h2 e=>by omega) (Nat.le_refl _)) (by omega) hF.size⟩
  ·
   have y0 : ¬ (((belowD 14 s).1 : Nat) : Int) < 4:=by omega
   by_cases h6 : (belowD 14 s).1 < 6
   ·
    have HE:=Lib.hid (HZ.trans (simpleD_lock _ h4 h6));have y1 : (((belowD 14 s).1 : Nat) : Int) < 6:=by omega
    clear HZ
    go_enter Try.func85, Try.ntmps85
    go_wp2_with fail
    refine (HB.out _ HS.out.cur).mono ?_;rintro e w1 ⟨rfl,hw1⟩;have hRC1:=HS.out.go hw1;clear hw1;have hsz1:=hRC1.lt;have hgw:=hRC1.hg;have hP:=fun (cs : Array Value) (h : cs.toList = lockL.map sv)=>(show Calls Try.prog 86 #[.pointer (some ⟨g,0,none⟩),.slice (some ⟨w1.heap.size,0,none⟩) 3 3] (w1.alloc (.cells cs 9)) fun e w'=>e = .returned (.string (pickD lockL (belowD 14 s).2).1) ∧ Went (w1.alloc (.cells cs 9)) g (pickD lockL (belowD 14 s).2).2 w' from
     l01Pick_any lockL _ 3 g _ _ (hRC1.alloc _).cur (lit_rd w1 cs 9 _ h) (fun ad e=>by injection e with e;subst e;simp only;omega) (by simp [lockL]) (by simp [lockL]))
    have HP:=Lib.hid hP;have HR1:=Lib.hid hRC1;clear hP hRC1;generalize pickD lockL (belowD 14 s).2 = nm at HP HE;go_wp2_with fail
    refine (HP.out _ rfl).mono ?_;rintro e w2 ⟨rfl,hw2⟩;have hRC2:=(HR1.out.alloc _).go hw2;have hsz2:=hw2.2.size;clear hw2;have c0:=hRC2.cell 0 rfl;have c1:=hRC2.cell 1 rfl;have c2:=hRC2.cell 2 rfl;have c3:=hRC2.cell 3 rfl;have c4:=hRC2.cell 4 rfl;have c5:=hRC2.cell 5 rfl;have c6:=hRC2.cell 6 rfl;have c7:=hRC2.cell 7 rfl;have f0:=hRC2.free 0;have f1:=hRC2.free 1;have f2:=hRC2.free 2;have f3:=hRC2.free 3;have f4:=hRC2.free 4;have f5:=hRC2.free 5;have f6:=hRC2.free 6;have f7:=hRC2.free 7;have HRL:=Lib.hid hRC2;clear hRC2;go_wp2_with fail
    have hfin:=HRL.out.set8 (.int .i64 6) (.string nm.1) (.int .i64 0) (.int .i64 0) (.string ⟨#[]⟩) (nilV) (nilV) (nilV);refine bodyPost_ret (results_cell_row rfl _ _ _ _ _ _ _ rfl hfin.blk Try.underlying106 rfl (by kernel_rfl)) rfl ?_;rw [HE.out];exact ⟨_,rfl,by simp only [StIn],hfin.went⟩
   ·
    have y1 : ¬ (((belowD 14 s).1 : Nat) : Int) < 6:=by omega
    by_cases h8 : (belowD 14 s).1 < 8
    ·
     have HE:=Lib.hid (HZ.trans (simpleD_unlock _ h4 h6 h8));have y2 : (((belowD 14 s).1 : Nat) : Int) < 8:=by omega
     clear HZ
     go_enter Try.func85, Try.ntmps85
     go_wp2_with fail
     refine (HB.out _ HS.out.cur).mono ?_;rintro e w1 ⟨rfl,hw1⟩;have hRC1:=HS.out.go hw1;clear hw1;have hsz1:=hRC1.lt;have hgw:=hRC1.hg;have hP:=fun (cs : Array Value) (h : cs.toList = lockL.map sv)=>(show Calls Try.prog 86 #[.pointer (some ⟨g,0,none⟩),.slice (some ⟨w1.heap.size,0,none⟩) 3 3] (w1.alloc (.cells cs 9)) fun e w'=>e = .returned (.string (pickD lockL (belowD 14 s).2).1) ∧ Went (w1.alloc (.cells cs 9)) g (pickD lockL (belowD 14 s).2).2 w' from
      l01Pick_any lockL _ 3 g _ _ (hRC1.alloc _).cur (lit_rd w1 cs 9 _ h) (fun ad e=>by injection e with e;subst e;simp only;omega) (by simp [lockL]) (by simp [lockL]))
     have HP:=Lib.hid hP;have HR1:=Lib.hid hRC1;clear hP hRC1;generalize pickD lockL (belowD 14 s).2 = nm at HP HE;go_wp2_with fail
     refine (HP.out _ rfl).mono ?_;rintro e w2 ⟨rfl,hw2⟩;have hRC2:=(HR1.out.alloc _).go hw2;have hsz2:=hw2.2.size;clear hw2;have c0:=hRC2.cell 0 rfl;have c1:=hRC2.cell 1 rfl;have c2:=hRC2.cell 2 rfl;have c3:=hRC2.cell 3 rfl;have c4:=hRC2.cell 4 rfl;have c5:=hRC2.cell 5 rfl;have c6:=hRC2.cell 6 rfl;have c7:=hRC2.cell 7 rfl;have f0:=hRC2.free 0;have f1:=hRC2.free 1;have f2:=hRC2.free 2;have f3:=hRC2.free 3;have f4:=hRC2.free 4;have f5:=hRC2.free 5;have f6:=hRC2.free 6;have f7:=hRC2.free 7;have HRL:=Lib.hid hRC2;clear hRC2;go_wp2_with fail
     have hfin:=HRL.out.set8 (.int .i64 7) (.string nm.1) (.int .i64 0) (.int .i64 0) (.string ⟨#[]⟩) (nilV) (nilV) (nilV);refine bodyPost_ret (results_cell_row rfl _ _ _ _ _ _ _ rfl hfin.blk Try.underlying106 rfl (by kernel_rfl)) rfl ?_;rw [HE.out];exact ⟨_,rfl,by simp only [StIn],hfin.went⟩
    ·
     have y2 : ¬ (((belowD 14 s).1 : Nat) : Int) < 8:=by omega
     by_cases e8 : (belowD 14 s).1 = 8
     ·
      have HE:=Lib.hid (HZ.trans (simpleD_call _ e8));have y3 : (((belowD 14 s).1 : Nat) : Int) = 8:=by omega
      clear HZ
      go_enter Try.func85, Try.ntmps85
      go_wp2_with fail
      refine (HB.out _ HS.out.cur).mono ?_;rintro e w1 ⟨rfl,hw1⟩;have hRC1:=HS.out.go hw1;clear hw1;have hsz1:=hRC1.lt;have hgw:=hRC1.hg;have hP:=fun (cs : Array Value) (h : cs.toList = callL3.map sv)=>(show Calls Try.prog 86 #[.pointer (some ⟨g,0,none⟩),.slice (some ⟨w1.heap.size,0,none⟩) 3 3] (w1.alloc (.cells cs 9)) fun e w'=>e = .returned (.string (pickD callL3 (belowD 14 s).2).1) ∧ Went (w1.alloc (.cells cs 9)) g (pickD callL3 (belowD 14 s).2).2 w' from
       l01Pick_any callL3 _ 3 g _ _ (hRC1.alloc _).cur (lit_rd w1 cs 9 _ h) (fun ad e=>by injection e with e;subst e;simp only;omega) (by simp [callL3]) (by simp [callL3]))
      have HP:=Lib.hid hP;have HR1:=Lib.hid hRC1;clear hP hRC1;generalize pickD callL3 (belowD 14 s).2 = nm at HP HE;go_wp2_with fail
      refine (HP.out _ rfl).mono ?_;rintro e w2 ⟨rfl,hw2⟩;have hRC2:=(HR1.out.alloc _).go hw2;have hsz2:=hw2.2.size;clear hw2;have c0:=hRC2.cell 0 rfl;have c1:=hRC2.cell 1 rfl;have c2:=hRC2.cell 2 rfl;have c3:=hRC2.cell 3 rfl;have c4:=hRC2.cell 4 rfl;have c5:=hRC2.cell 5 rfl;have c6:=hRC2.cell 6 rfl;have c7:=hRC2.cell 7 rfl;have f0:=hRC2.free 0;have f1:=hRC2.free 1;have f2:=hRC2.free 2;have f3:=hRC2.free 3;have f4:=hRC2.free 4;have f5:=hRC2.free 5;have f6:=hRC2.free 6;have f7:=hRC2.free 7;have HRL:=Lib.hid hRC2;clear hRC2;go_wp2_with fail
      have hfin:=HRL.out.set8 (.int .i64 4) (.string nm.1) (.int .i64 0) (.int .i64 0) (.string ⟨#[]⟩) (nilV) (nilV) (nilV);refine bodyPost_ret (results_cell_row rfl _ _ _ _ _ _ _ rfl hfin.blk Try.underlying106 rfl (by kernel_rfl)) rfl ?_;rw [HE.out];exact ⟨_,rfl,by simp only [StIn],hfin.went⟩
     ·
      have y3 : ¬ (((belowD 14 s).1 : Nat) : Int) = 8:=by omega
      by_cases e9 : (belowD 14 s).1 = 9
      ·
       have HE:=Lib.hid (HZ.trans (simpleD_spawn _ e9));have y4 : (((belowD 14 s).1 : Nat) : Int) = 9:=by omega
       clear HZ
       go_enter Try.func85, Try.ntmps85
       go_wp2_with fail
       refine (HB.out _ HS.out.cur).mono ?_;rintro e w1 ⟨rfl,hw1⟩;have hRC1:=HS.out.go hw1;clear hw1;have hsz1:=hRC1.lt;have hgw:=hRC1.hg;have hP:=fun (cs : Array Value) (h : cs.toList = callL3.map sv)=>(show Calls Try.prog 86 #[.pointer (some ⟨g,0,none⟩),.slice (some ⟨w1.heap.size,0,none⟩) 3 3] (w1.alloc (.cells cs 9)) fun e w'=>e = .returned (.string (pickD callL3 (belowD 14 s).2).1) ∧ Went (w1.alloc (.cells cs 9)) g (pickD callL3 (belowD 14 s).2).2 w' from
        l01Pick_any callL3 _ 3 g _ _ (hRC1.alloc _).cur (lit_rd w1 cs 9 _ h) (fun ad e=>by injection e with e;subst e;simp only;omega) (by simp [callL3]) (by simp [callL3]))
       have HP:=Lib.hid hP;have HR1:=Lib.hid hRC1;clear hP hRC1;generalize pickD callL3 (belowD 14 s).2 = nm at HP HE;go_wp2_with fail
       refine (HP.out _ rfl).mono ?_;rintro e w2 ⟨rfl,hw2⟩;have hRC2:=(HR1.out.alloc _).go hw2;have hsz2:=hw2.2.size;clear hw2;have c0:=hRC2.cell 0 rfl;have c1:=hRC2.cell 1 rfl;have c2:=hRC2.cell 2 rfl;have c3:=hRC2.cell 3 rfl;have c4:=hRC2.cell 4 rfl;have c5:=hRC2.cell 5 rfl;have c6:=hRC2.cell 6 rfl;have c7:=hRC2.cell 7 rfl;have f0:=hRC2.free 0;have f1:=hRC2.free 1;have f2:=hRC2.free 2;have f3:=hRC2.free 3;have f4:=hRC2.free 4;have f5:=hRC2.free 5;have f6:=hRC2.free 6;have f7:=hRC2.free 7;have HRL:=Lib.hid hRC2;clear hRC2;go_wp2_with fail
       have hfin:=HRL.out.set8 (.int .i64 5) (.string nm.1) (.int .i64 0) (.int .i64 0) (.string ⟨#[]⟩) (nilV) (nilV) (nilV);refine bodyPost_ret (results_cell_row rfl _ _ _ _ _ _ _ rfl hfin.blk Try.underlying106 rfl (by kernel_rfl)) rfl ?_;rw [HE.out];exact ⟨_,rfl,by simp only [StIn],hfin.went⟩
      ·
       have HE:=Lib.hid (HZ.trans (simpleD_skip _ (by omega)));have y4 : ¬ (((belowD 14 s).1 : Nat) : Int) = 9:=by omega
       have y5 : (((belowD 14 s).1 : Nat) : Int) = 10:=by omega
       clear HZ
       go_enter Try.func85, Try.ntmps85
       go_wp2_with fail
       refine (HB.out _ HS.out.cur).mono ?_;rintro e w1 ⟨rfl,hw1⟩;have hRC1:=HS.out.go hw1;clear hw1;have c0:=hRC1.cell 0 rfl;have c1:=hRC1.cell 1 rfl;have c2:=hRC1.cell 2 rfl;have c3:=hRC1.cell 3 rfl;have c4:=hRC1.cell 4 rfl;have c5:=hRC1.cell 5 rfl;have c6:=hRC1.cell 6 rfl;have c7:=hRC1.cell 7 rfl;have f0:=hRC1.free 0;have f1:=hRC1.free 1;have f2:=hRC1.free 2;have f3:=hRC1.free 3;have f4:=hRC1.free 4;have f5:=hRC1.free 5;have f6:=hRC1.free 6;have f7:=hRC1.free 7;have HRL:=Lib.hid hRC1;clear hRC1;go_wp2_with fail
       have hfin:=HRL.out.set8 (.int .i64 8) (.string ⟨#[]⟩) (.int .i64 0) (.int .i64 0) (.string ⟨#[]⟩) (nilV) (nilV) (nilV);refine bodyPost_ret (results_cell_row rfl _ _ _ _ _ _ _ rfl hfin.blk Try.underlying106 rfl (by kernel_rfl)) rfl ?_;rw [HE.out];exact ⟨_,rfl,by simp only [StIn],hfin.went⟩
 ·
  have y0 : ¬ (((belowD 14 s).1 : Nat) : Int) < 4:=by omega
  have y1 : ¬ (((belowD 14 s).1 : Nat) : Int) < 6:=by omega
  have y2 : ¬ (((belowD 14 s).1 : Nat) : Int) < 8:=by omega
  have y3 : ¬ (((belowD 14 s).1 : Nat) : Int) = 8:=by omega
  have y4 : ¬ (((belowD 14 s).1 : Nat) : Int) = 9:=by omega
  have y5 : ¬ (((belowD 14 s).1 : Nat) : Int) = 10:=by omega
  by_cases e11 : (belowD 14 s).1 = 11
  ·
   have y6 : (((belowD 14 s).1 : Nat) : Int) = 11:=by omega
   have HE:=Lib.hid (stmtD_loop (d:=d) s e11)
   go_enter Try.func85, Try.ntmps85
   go_wp2_with fail
   refine (HB.out _ HS.out.cur).mono ?_;rintro e w1 ⟨rfl,hw1⟩;have hRC1:=HS.out.go hw1;clear hw1;have hsz1:=hRC1.lt;have hT:=(show Calls Try.prog 99 #[.pointer (some ⟨g,0,none⟩),.int .i64 1] w1 (TmDrawn w1 g (termD 1 (belowD 14 s).2)) from l03Term_any 1 (by omega) g _ w1 hRC1.cur)
   have HT:=Lib.hid hT;have HR1:=Lib.hid hRC1;clear hT hRC1;generalize termD 1 (belowD 14 s).2 = T at HT HE;have HI1:=Lib.hid (fun W (h : CurAt W g T.2)=>HI.out g T.2 W h);generalize hL : listD d T.2 = Lb at HI1 HE;go_wp2_with fail
   refine HT.out.mono ?_;rintro e w2 ⟨A2,k2,rfl,hk2,hw2⟩;have hRC2:=HR1.out.go hw2;have hsz2:=hw2.2.size;have HR2:=Lib.hid hRC2;clear hRC2 hw2;go_wp2_with fail
   refine (HI1.out _ HR2.out.cur).mono ?_;rintro e w3 ⟨vb,rfl,hb3,hw3⟩;obtain ⟨Ab,kb,rfl⟩:=hb3.form;have hRC3:=HR2.out.go hw3;have hsz3:=hw3.2.size;have hk3:=kids_fr hk2 hw3.2 (fun b h1 h2 e=>by have:=HR2.out.hg;have:=HR2.out.hr;omega) (Nat.le_refl _);clear hw3 hk2;have c0:=hRC3.cell 0 rfl;have c1:=hRC3.cell 1 rfl;have c2:=hRC3.cell 2 rfl;have c3:=hRC3.cell 3 rfl;have c4:=hRC3.cell 4 rfl;have c5:=hRC3.cell 5 rfl;have c6:=hRC3.cell 6 rfl;have c7:=hRC3.cell 7 rfl;have f0:=hRC3.free 0;have f1:=hRC3.free 1;have f2:=hRC3.free 2;have f3:=hRC3.free 3;have f4:=hRC3.free 4;have f5:=hRC3.free 5;have f6:=hRC3.free 6;have f7:=hRC3.free 7;have HRL:=Lib.hid hRC3;clear hRC3;go_wp2_with fail
   have hfin:=HRL.out.set8 (.int .i64 3) (.string ⟨#[]⟩) (.int .i64 T.1.kind) (.int .i64 T.1.num) (.string T.1.name) (.slice A2 T.1.kids.length k2) (.slice Ab Lb.1.length kb) (nilV);refine bodyPost_ret (results_cell_row rfl _ _ _ _ _ _ _ rfl hfin.blk Try.underlying106 rfl (by kernel_rfl)) rfl ?_;rw [HE.out];have hF:=set8_fr w3 w.heap.size (.int .i64 3) (.string ⟨#[]⟩) (.int .i64 T.1.kind) (.int .i64 T.1.num) (.string T.1.name) (.slice A2 T.1.kids.length k2) (.slice Ab Lb.1.length kb) (nilV);refine ⟨_,rfl,?_,hfin.went⟩;rw [stIn_loop];exact ⟨A2,k2,_,w2.heap.size,rfl,by omega,Nat.le_trans hsz3 hF.size,kids_mono (kids_fr hk3 hF (fun b h1 h2 e=>by omega) (by omega)) (by omega) (Nat.le_refl _),(hb3.fr hF (fun b h1 h2 e=>by omega) (Nat.le_refl _)).mono (Nat.le_refl _) hF.size⟩
  ·
   have y6 : ¬ (((belowD 14 s).1 : Nat) : Int) = 11:=by omega
   have HE0:=Lib.hid (stmtD_cond0 (d:=d) s (by omega) _ rfl _ rfl);have HE1:=Lib.hid (stmtD_cond1 (d:=d) s (by omega) _ rfl _ rfl)
   go_enter Try.func85, Try.ntmps85
   go_wp2_with fail
   refine (HB.out _ HS.out.cur).mono ?_;rintro e w1 ⟨rfl,hw1⟩;have hRC1:=HS.out.go hw1;clear hw1;have hsz1:=hRC1.lt;have hT:=(show Calls Try.prog 99 #[.pointer (some ⟨g,0,none⟩),.int .i64 1] w1 (TmDrawn w1 g (termD 1 (belowD 14 s).2)) from l03Term_any 1 (by omega) g _ w1 hRC1.cur)
   have HT:=Lib.hid hT;have HR1:=Lib.hid hRC1;clear hT hRC1;generalize hTe : termD 1 (belowD 14 s).2 = T at HT HE0 HE1;have HI1:=Lib.hid (fun W (h : CurAt W g T.2)=>HI.out g T.2 W h);generalize hL : listD d T.2 = Lb at HI1 HE0 HE1;go_wp2_with fail
   refine HT.out.mono ?_;rintro e w2 ⟨A2,k2,rfl,hk2,hw2⟩;have hRC2:=HR1.out.go hw2;have hsz2:=hw2.2.size;have HR2:=Lib.hid hRC2;clear hRC2 hw2;go_wp2_with fail
   refine (HI1.out _ HR2.out.cur).mono ?_;rintro e w3 ⟨vb,rfl,hb3,hw3⟩;obtain ⟨Ab,kb,rfl⟩:=hb3.form;have hRC3:=HR2.out.go hw3;have hsz3:=hw3.2.size;have hk3:=kids_fr hk2 hw3.2 (fun b h1 h2 e=>by have:=HR2.out.hg;have:=HR2.out.hr;omega) (Nat.le_refl _);clear hw3 hk2;have hQ4:=hRC3.second #[.int .i64 2,.string ⟨#[]⟩,.int .i64 T.1.kind,.int .i64 T.1.num,.string T.1.name,.slice A2 T.1.kids.length k2,.slice Ab Lb.1.length kb,.slice none 0 0] 106;have hR4:=hRC3.alloc (.cells #[.int .i64 2,.string ⟨#[]⟩,.int .i64 T.1.kind,.int .i64 T.1.num,.string T.1.name,.slice A2 T.1.kids.length k2,.slice Ab Lb.1.length kb,.slice none 0 0] 106);have hq0 : w.heap.size ≤ w3.heap.size:=by omega
   have hq1 : w.heap.size ≠ w3.heap.size:=by omega
   have hF4 : Fr (fun b=>b = g ∨ b = w.heap.size ∨ b = w3.heap.size) w3 (w3.alloc (.cells #[.int .i64 2,.string ⟨#[]⟩,.int .i64 T.1.kind,.int .i64 T.1.num,.string T.1.name,.slice A2 T.1.kids.length k2,.slice Ab Lb.1.length kb,.slice none 0 0] 106)):=Fr.of_below (below_alloc0 _ _);clear hRC3;go_wp2_with fail
   generalize w3.alloc (.cells #[.int .i64 2,.string ⟨#[]⟩,.int .i64 T.1.kind,.int .i64 T.1.num,.string T.1.name,.slice A2 T.1.kids.length k2,.slice Ab Lb.1.length kb,.slice none 0 0] 106) = W4 at hQ4 hR4 hF4 ⊢;have HO:=Lib.hid (show Calls Try.prog 64 #[.pointer (some ⟨g,0,none⟩),.int .i64 2] W4 fun e w'=>e = .returned (.bool (decide ((belowD 2 Lb.2).1 = 0))) ∧ Went W4 g (belowD 2 Lb.2).2 w' from l01Once_any 2 g _ W4 hR4.cur (by omega) (by omega));have HQ4:=Lib.hid hQ4;have HR4:=Lib.hid hR4;have HF4:=Lib.hid hF4;clear hQ4 hR4 hF4;by_cases h2 : (belowD 2 Lb.2).1 = 0
   ·
    have HE:=Lib.hid (HE0.out h2);have HO2:=HO.out;rw [decide_eq_true h2] at HO2;have HO:=Lib.hid HO2;clear HO2 HE0 HE1 h2;have HI2:=Lib.hid (fun W (h : CurAt W g (belowD 2 Lb.2).2)=>HI.out g (belowD 2 Lb.2).2 W h);generalize belowD 2 Lb.2 = O at HO HE HI2;generalize listD d O.2 = Le at HE HI2;go_wp2_with fail
    refine HO.out.mono ?_;rintro e w5 ⟨rfl,hw5⟩;have HQ5:=Lib.hid (HQ4.out.go hw5);have HR5:=Lib.hid (HR4.out.go hw5);have HF5:=Lib.hid (HF4.out.trans (hw5.2.mono (T:=(fun b=>b = g ∨ b = w.heap.size ∨ b = w3.heap.size)) (fun b _ h=>.inl h)));have hsz5:=hw5.2.size;have hlq:=HQ4.out.lt;clear hw5 HQ4 HR4 HF4;go_wp2_with fail
    refine (HI2.out _ HR5.out.cur).mono ?_;rintro e w6 ⟨ve,rfl,he6,hw6⟩;obtain ⟨Ae,ke,rfl⟩:=he6.form;have hQ6:=HQ5.out.go hw6;have hR6:=HR5.out.go hw6;have HF6:=Lib.hid (HF5.out.trans (hw6.2.mono (T:=(fun b=>b = g ∨ b = w.heap.size ∨ b = w3.heap.size)) (fun b _ h=>.inl h)));have hsz6:=hw6.2.size;have hQ7:=hQ6.set7 (.slice Ae Le.1.length ke);have hR7:=hR6.other hq0 hq1 7 (.slice Ae Le.1.length ke);have hF67:=Fr.set (S:=(· = w3.heap.size)) (Fr.refl _ w6) (a:=⟨w3.heap.size,7,none⟩) (fun _=>rfl) (.slice Ae Le.1.length ke);have hF7:=HF6.out.trans (hF67.mono (T:=(fun b=>b = g ∨ b = w.heap.size ∨ b = w3.heap.size)) (fun b _ h=>.inr (.inr h)));have d7:=hQ6.cell 7 rfl;have g7:=hQ6.free 7;clear hw6 HQ5 HR5 HF5 hQ6 hR6;have HQ7:=Lib.hid hQ7;have HR7:=Lib.hid hR7;have HF7:=Lib.hid hF7;have he7:=he6.fr hF67 (fun b h1 h2 e=>by omega) (Nat.le_refl _);have hsz7:=hF67.size;have HE7:=Lib.hid he7;clear hQ7 hR7 hF7 he7 he6 hF67;have d0:=HQ7.out.cell 0 rfl;have d1:=HQ7.out.cell 1 rfl;have d2:=HQ7.out.cell 2 rfl;have d3:=HQ7.out.cell 3 rfl;have d4:=HQ7.out.cell 4 rfl;have d5:=HQ7.out.cell 5 rfl;have d6:=HQ7.out.cell 6 rfl;have d7:=HQ7.out.cell 7 rfl;have c0:=HR7.out.cell 0 rfl;have c1:=HR7.out.cell 1 rfl;have c2:=HR7.out.cell 2 rfl;have c3:=HR7.out.cell 3 rfl;have c4:=HR7.out.cell 4 rfl;have c5:=HR7.out.cell 5 rfl;have c6:=HR7.out.cell 6 rfl;have c7:=HR7.out.cell 7 rfl;have f0:=HR7.out.free 0;have f1:=HR7.out.free 1;have f2:=HR7.out.free 2;have f3:=HR7.out.free 3;have f4:=HR7.out.free 4;have f5:=HR7.out.free 5;have f6:=HR7.out.free 6;have f7:=HR7.out.free 7;have HRL:=Lib.hid HR7.out;go_wp2_with fail
    have hfin:=HRL.out.set8 (.int .i64 2) (.string ⟨#[]⟩) (.int .i64 T.1.kind) (.int .i64 T.1.num) (.string T.1.name) (.slice A2 T.1.kids.length k2) (.slice Ab Lb.1.length kb) (.slice Ae Le.1.length ke);refine bodyPost_ret (results_cell_row rfl _ _ _ _ _ _ _ rfl hfin.blk Try.underlying106 rfl (by kernel_rfl)) rfl ?_;rw [HE.out];have hF:=set8_fr (w6.setCell ⟨w3.heap.size,7,none⟩ (.slice Ae Le.1.length ke)) w.heap.size (.int .i64 2) (.string ⟨#[]⟩) (.int .i64 T.1.kind) (.int .i64 T.1.num) (.string T.1.name) (.slice A2 T.1.kids.length k2) (.slice Ab Lb.1.length kb) (.slice Ae Le.1.length ke);have hFF:=HF7.out.trans (hF.mono (T:=(fun b=>b = g ∨ b = w.heap.size ∨ b = w3.heap.size)) (fun b _ h=>.inr (.inl h)));have hszF:=hFF.size;have hszG:=hF.size;have hgw:=HRL.out.hg;refine ⟨_,rfl,?_,hfin.went⟩;rw [stIn_cond];exact ⟨A2,k2,_,_,w2.heap.size,w3.heap.size,rfl,by omega,by omega,hszF,kids_mono (kids_fr hk3 hFF (fun b h1 h2 e=>by omega) (by omega)) (by omega) (Nat.le_refl _),hb3.fr hFF (fun b h1 h2 e=>by omega) (Nat.le_refl _),(HE7.out.fr hF (fun b h1 h2 e=>by omega) (by omega)).mono (by omega) (Nat.le_trans hsz7 hF.size)⟩
   ·
    have HE:=Lib.hid (HE1.out h2);have HO2:=HO.out;rw [decide_eq_false h2] at HO2;have HO:=Lib.hid HO2;clear HO2 HE0 HE1 h2;generalize belowD 2 Lb.2 = O at HO HE;go_wp2_with fail
    refine HO.out.mono ?_;rintro e w5 ⟨rfl,hw5⟩;have hQ5:=HQ4.out.go hw5;have hR5:=HR4.out.go hw5;have HF5:=Lib.hid (HF4.out.trans (hw5.2.mono (T:=(fun b=>b = g ∨ b = w.heap.size ∨ b = w3.heap.size)) (fun b _ h=>.inl h)));have hsz5:=hw5.2.size;have hlq:=HQ4.out.lt;clear hw5 HQ4 HR4 HF4;have d0:=hQ5.cell 0 rfl;have d1:=hQ5.cell 1 rfl;have d2:=hQ5.cell 2 rfl;have d3:=hQ5.cell 3 rfl;have d4:=hQ5.cell 4 rfl;have d5:=hQ5.cell 5 rfl;have d6:=hQ5.cell 6 rfl;have d7:=hQ5.cell 7 rfl;have c0:=hR5.cell 0 rfl;have c1:=hR5.cell 1 rfl;have c2:=hR5.cell 2 rfl;have c3:=hR5.cell 3 rfl;have c4:=hR5.cell 4 rfl;have c5:=hR5.cell 5 rfl;have c6:=hR5.cell 6 rfl;have c7:=hR5.cell 7 rfl;have f0:=hR5.free 0;have f1:=hR5.free 1;have f2:=hR5.free 2;have f3:=hR5.free 3;have f4:=hR5.free 4;have f5:=hR5.free 5;have f6:=hR5.free 6;have f7:=hR5.free 7;clear hQ5;have HRL:=Lib.hid hR5;clear hR5;go_wp2_with fail
    have hfin:=HRL.out.set8 (.int .i64 2) (.string ⟨#[]⟩) (.int .i64 T.1.kind) (.int .i64 T.1.num) (.string T.1.name) (.slice A2 T.1.kids.length k2) (.slice Ab Lb.1.length kb) (nilV);refine bodyPost_ret (results_cell_row rfl _ _ _ _ _ _ _ rfl hfin.blk Try.underlying106 rfl (by kernel_rfl)) rfl ?_;rw [HE.out];have hF:=set8_fr w5 w.heap.size (.int .i64 2) (.string ⟨#[]⟩) (.int .i64 T.1.kind) (.int .i64 T.1.num) (.string T.1.name) (.slice A2 T.1.kids.length k2) (.slice Ab Lb.1.length kb) (nilV);have hFF:=HF5.out.trans (hF.mono (T:=(fun b=>b = g ∨ b = w.heap.size ∨ b = w3.heap.size)) (fun b _ h=>.inr (.inl h)));have hszF:=hFF.size;have hszG:=hF.size;have hgw:=HRL.out.hg;refine ⟨_,rfl,?_,hfin.went⟩;rw [stIn_cond];exact ⟨A2,k2,_,_,w2.heap.size,w3.heap.size,rfl,by omega,by omega,hszF,kids_mono (kids_fr hk3 hFF (fun b h1 h2 e=>by omega) (by omega)) (by omega) (Nat.le_refl _),hb3.fr hFF (fun b h1 h2 e=>by omega) (Nat.le_refl _),.inl ⟨rfl,rfl⟩⟩
end Go.Proofs.Ytkgoajnnkimkaaa
