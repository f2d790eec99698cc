/- Contract of the reference's l04Stmt: a drawn statement. -/
import Derived.Test.YtkgoajnnkimkaaaH6
set_option linter.unusedSimpArgs false
set_option linter.unusedVariables false
set_option maxRecDepth 100000
set_option maxHeartbeats 16000000
namespace Go.Proofs.Ytkgoajnnkimkaaa
open Go.ChangeShapes Go.WideShapes Go.ChangeAt Go.RowKit
theorem set8_fr (W : World) (r : Nat) (v0 v1 v2 v3 v4 v5 v6 v7 : Value) : Fr (· = r) W ((((((((W.setCell ⟨r,0,none⟩ v0).setCell ⟨r,1,none⟩ v1).setCell ⟨r,2,none⟩ v2).setCell ⟨r,3,none⟩ v3).setCell ⟨r,4,none⟩ v4).setCell ⟨r,5,none⟩ v5).setCell ⟨r,6,none⟩ v6).setCell ⟨r,7,none⟩ v7) :=
 ((((((((Fr.refl (· = r) W).set (a:=⟨r,0,none⟩) (fun _=>rfl) v0).set (a:=⟨r,1,none⟩) (fun _=>rfl) v1).set (a:=⟨r,2,none⟩) (fun _=>rfl) v2).set (a:=⟨r,3,none⟩) (fun _=>rfl) v3).set (a:=⟨r,4,none⟩) (fun _=>rfl) v4).set (a:=⟨r,5,none⟩) (fun _=>rfl) v5).set (a:=⟨r,6,none⟩) (fun _=>rfl) v6).set (a:=⟨r,7,none⟩) (fun _=>rfl) v7
theorem RC.set8 {w W : World} {g r : Nat} {s : Cr} {x0 x1 x2 x3 x4 x5 x6 x7 : Value} {t : TypeId} (h : RC w W g s r #[x0, x1, x2, x3, x4, x5, x6, x7] t) (v0 v1 v2 v3 v4 v5 v6 v7 : Value) :
  RC w ((((((((W.setCell ⟨r,0,none⟩ v0).setCell ⟨r,1,none⟩ v1).setCell ⟨r,2,none⟩ v2).setCell ⟨r,3,none⟩ v3).setCell ⟨r,4,none⟩ v4).setCell ⟨r,5,none⟩ v5).setCell ⟨r,6,none⟩ v6).setCell ⟨r,7,none⟩ v7) g s r #[v0,v1,v2,v3,v4,v5,v6,v7] t:=by
 have:=(((((((h.set 0 v0).set 1 v1).set 2 v2).set 3 v3).set 4 v4).set 5 v5).set 6 v6).set 7 v7;simpa using this
theorem simpleD_set {k : Nat} (s : Cr) (h : k < 4) : simpleD k s = (.set (pickD setL3 s).1 (termD 2 (pickD setL3 s).2).1,(termD 2 (pickD setL3 s).2).2):=if_pos h
theorem simpleD_lock {k : Nat} (s : Cr) (h0 : ¬ k < 4) (h : k < 6) : simpleD k s = (.word 6 (pickD lockL s).1,(pickD lockL s).2):=(if_neg h0).trans (if_pos h)
theorem simpleD_unlock {k : Nat} (s : Cr) (h0 : ¬ k < 4) (h1 : ¬ k < 6) (h : k < 8) : simpleD k s = (.word 7 (pickD lockL s).1,(pickD lockL s).2):=(if_neg h0).trans ((if_neg h1).trans (if_pos h))
theorem simpleD_call {k : Nat} (s : Cr) (h : k = 8) : simpleD k s = (.word 4 (pickD callL3 s).1,(pickD callL3 s).2):=(if_neg (by omega)).trans ((if_neg (by omega)).trans ((if_neg (by omega)).trans (if_pos h)))
theorem simpleD_spawn {k : Nat} (s : Cr) (h : k = 9) : simpleD k s = (.word 5 (pickD callL3 s).1,(pickD callL3 s).2):=(if_neg (by omega)).trans ((if_neg (by omega)).trans ((if_neg (by omega)).trans ((if_neg (by omega)).trans (if_pos h))))
theorem simpleD_skip {k : Nat} (s : Cr) (h : 10 ≤ k) : simpleD k s = (.skip,s):=(if_neg (by omega)).trans ((if_neg (by omega)).trans ((if_neg (by omega)).trans ((if_neg (by omega)).trans (if_neg (by omega)))))
theorem stmtD_zero (s : Cr) : stmtD 0 s = simpleD (if 11 ≤ (belowD 14 s).1 then (belowD 14 s).1 - 6 else (belowD 14 s).1) (belowD 14 s).2:=rfl
theorem stmtD_simple {d : Nat} (s : Cr) (h : (belowD 14 s).1 < 11) : stmtD (d + 1) s = simpleD (belowD 14 s).1 (belowD 14 s).2:=if_pos h
theorem stmtD_loop {d : Nat} (s : Cr) (h : (belowD 14 s).1 = 11) : stmtD (d + 1) s = (.loop (termD 1 (belowD 14 s).2).1 (listD d (termD 1 (belowD 14 s).2).2).1,(listD d (termD 1 (belowD 14 s).2).2).2):=(if_neg (by omega)).trans (if_pos h)
theorem stmtD_cond0 {d : Nat} (s : Cr) (h : 12 ≤ (belowD 14 s).1) (T : Tm × Cr) (hT : termD 1 (belowD 14 s).2 = T) (b : List St × Cr) (hb : listD d T.2 = b) (h0 : (belowD 2 b.2).1 = 0) :
  stmtD (d + 1) s = (.cond T.1 b.1 (listD d (belowD 2 b.2).2).1,(listD d (belowD 2 b.2).2).2):=by subst hT;subst hb;exact (if_neg (by omega)).trans ((if_neg (by omega)).trans (if_pos h0))
theorem stmtD_cond1 {d : Nat} (s : Cr) (h : 12 ≤ (belowD 14 s).1) (T : Tm × Cr) (hT : termD 1 (belowD 14 s).2 = T) (b : List St × Cr) (hb : listD d T.2 = b) (h0 : ¬ (belowD 2 b.2).1 = 0) :
  stmtD (d + 1) s = (.cond T.1 b.1 [],(belowD 2 b.2).2):=by subst hT;subst hb;exact (if_neg (by omega)).trans ((if_neg (by omega)).trans (if_neg h0))
theorem l04Stmt_zero (g : Nat) (s : Cr) (w : World) (hc : CurAt w g s) : Calls Try.prog 85 #[.pointer (some ⟨g,0,none⟩),.int .i64 0] w (StDrawn w g (stmtD 0 s)):=by
 have HB:=Lib.hid (fun W (hc : CurAt W g s)=>l01Below_any 14 g s W hc (by omega) (by omega));have HS:=Lib.hid (RC.start hc #[.int .i64 0,.string ⟨#[]⟩,.int .i64 0,.int .i64 0,.string ⟨#[]⟩,nilV,nilV,nilV] 106);have hlt14:=belowD_lt (n:=14) s (by omega);clear hc;by_cases h11 : 11 ≤ (belowD 14 s).1
 ·
  have z0 : (11 : Int) ≤ (((belowD 14 s).1 : Nat) : Int):=by omega
  have HZ:=(stmtD_zero s).trans (congrArg (fun k=>simpleD k (belowD 14 s).2) (if_pos h11));have y0 : ¬ (((belowD 14 s).1 : Nat) : Int) - 6 < 4:=by omega
  by_cases h5 : (belowD 14 s).1 - 6 < 6
  ·
   have HE:=Lib.hid (HZ.trans (simpleD_lock _ (by omega) h5));have y1 : (((belowD 14 s).1 : Nat) : Int) - 6 < 6:=by omega
   clear HZ
   go_enter Try.func85, Try.ntmps85
   go_wp2_with fail
   refine (HB.out _ HS.out.cur).mono ?_;rintro e w1 ⟨rfl,hw1⟩;have hRC1:=HS.out.go hw1;clear hw1;have hsz1:=hRC1.lt;have hgw:=hRC1.hg;have hP:=fun (cs : Array Value) (h : cs.toList = lockL.map sv)=>(show Calls Try.prog 86 #[.pointer (some ⟨g,0,none⟩),.slice (some ⟨w1.heap.size,0,none⟩) 3 3] (w1.alloc (.cells cs 9)) fun e w'=>e = .returned (.string (pickD lockL (belowD 14 s).2).1) ∧ Went (w1.alloc (.cells cs 9)) g (pickD lockL (belowD 14 s).2).2 w' from
    l01Pick_any lockL _ 3 g _ _ (hRC1.alloc _).cur (lit_rd w1 cs 9 _ h) (fun ad e=>by injection e with e;subst e;simp only;omega) (by simp [lockL]) (by simp [lockL]))
   have HP:=Lib.hid hP;have HR1:=Lib.hid hRC1;clear hP hRC1;generalize pickD lockL (belowD 14 s).2 = nm at HP HE;go_wp2_with fail
   refine (HP.out _ rfl).mono ?_;rintro e w2 ⟨rfl,hw2⟩;have hRC2:=(HR1.out.alloc _).go hw2;have hsz2:=hw2.2.size;clear hw2;have c0:=hRC2.cell 0 rfl;have c1:=hRC2.cell 1 rfl;have c2:=hRC2.cell 2 rfl;have c3:=hRC2.cell 3 rfl;have c4:=hRC2.cell 4 rfl;have c5:=hRC2.cell 5 rfl;have c6:=hRC2.cell 6 rfl;have c7:=hRC2.cell 7 rfl;have f0:=hRC2.free 0;have f1:=hRC2.free 1;have f2:=hRC2.free 2;have f3:=hRC2.free 3;have f4:=hRC2.free 4;have f5:=hRC2.free 5;have f6:=hRC2.free 6;have f7:=hRC2.free 7;have HRL:=Lib.hid hRC2;clear hRC2;go_wp2_with fail
   have hfin:=HRL.out.set8 (.int .i64 6) (.string nm.1) (.int .i64 0) (.int .i64 0) (.string ⟨#[]⟩) (nilV) (nilV) (nilV);refine bodyPost_ret (results_cell_row rfl _ _ _ _ _ _ _ rfl hfin.blk Try.underlying106 rfl (by kernel_rfl)) rfl ?_;rw [HE.out];exact ⟨_,rfl,by simp only [StIn],hfin.went⟩
  ·
   have HE:=Lib.hid (HZ.trans (simpleD_unlock _ (by omega) h5 (by omega)));have y1 : ¬ (((belowD 14 s).1 : Nat) : Int) - 6 < 6:=by omega
   have y2 : (((belowD 14 s).1 : Nat) : Int) - 6 < 8:=by omega
   clear HZ
   go_enter Try.func85, Try.ntmps85
   go_wp2_with fail
   refine (HB.out _ HS.out.cur).mono ?_;rintro e w1 ⟨rfl,hw1⟩;have hRC1:=HS.out.go hw1;clear hw1;have hsz1:=hRC1.lt;have hgw:=hRC1.hg;have hP:=fun (cs : Array Value) (h : cs.toList = lockL.map sv)=>(show Calls Try.prog 86 #[.pointer (some ⟨g,0,none⟩),.slice (some ⟨w1.heap.size,0,none⟩) 3 3] (w1.alloc (.cells cs 9)) fun e w'=>e = .returned (.string (pickD lockL (belowD 14 s).2).1) ∧ Went (w1.alloc (.cells cs 9)) g (pickD lockL (belowD 14 s).2).2 w' from
    l01Pick_any lockL _ 3 g _ _ (hRC1.alloc _).cur (lit_rd w1 cs 9 _ h) (fun ad e=>by injection e with e;subst e;simp only;omega) (by simp [lockL]) (by simp [lockL]))
   have HP:=Lib.hid hP;have HR1:=Lib.hid hRC1;clear hP hRC1;generalize pickD lockL (belowD 14 s).2 = nm at HP HE;go_wp2_with fail
   refine (HP.out _ rfl).mono ?_;rintro e w2 ⟨rfl,hw2⟩;have hRC2:=(HR1.out.alloc _).go hw2;have hsz2:=hw2.2.size;clear hw2;have c0:=hRC2.cell 0 rfl;have c1:=hRC2.cell 1 rfl;have c2:=hRC2.cell 2 rfl;have c3:=hRC2.cell 3 rfl;have c4:=hRC2.cell 4 rfl;have c5:=hRC2.cell 5 rfl;have c6:=hRC2.cell 6 rfl;have c7:=hRC2.cell 7 rfl;have f0:=hRC2.free 0;have f1:=hRC2.free 1;have f2:=hRC2.free 2;have f3:=hRC2.free 3;have f4:=hRC2.free 4;have f5:=hRC2.free 5;have f6:=hRC2.free 6;have f7:=hRC2.free 7;have HRL:=Lib.hid hRC2;clear hRC2;go_wp2_with fail
   have hfin:=HRL.out.set8 (.int .i64 7) (.string nm.1) (.int .i64 0) (.int .i64 0) (.string ⟨#[]⟩) (nilV) (nilV) (nilV);refine bodyPost_ret (results_cell_row rfl _ _ _ _ _ _ _ rfl hfin.blk Try.underlying106 rfl (by kernel_rfl)) rfl ?_;rw [HE.out];exact ⟨_,rfl,by simp only [StIn],hfin.went⟩
 ·
  have z0 : ¬ (11 : Int) ≤ (((belowD 14 s).1 : Nat) : Int):=by omega
  have HZ:=(stmtD_zero s).trans (congrArg (fun k=>simpleD k (belowD 14 s).2) (if_neg h11));by_cases h4 : (belowD 14 s).1 < 4
  ·
   have HE:=Lib.hid (HZ.trans (simpleD_set _ h4));have y0 : (((belowD 14 s).1 : Nat) : Int) < 4:=by omega
   clear HZ
   go_enter Try.func85, Try.ntmps85
   go_wp2_with fail
   refine (HB.out _ HS.out.cur).mono ?_;rintro e w1 ⟨rfl,hw1⟩;have hRC1:=HS.out.go hw1;clear hw1;have hsz1:=hRC1.lt;have hgw:=hRC1.hg;have hP:=fun (cs : Array Value) (h : cs.toList = setL3.map sv)=>(show Calls Try.prog 86 #[.pointer (some ⟨g,0,none⟩),.slice (some ⟨w1.heap.size,0,none⟩) 3 3] (w1.alloc (.cells cs 9)) fun e w'=>e = .returned (.string (pickD setL3 (belowD 14 s).2).1) ∧ Went (w1.alloc (.cells cs 9)) g (pickD setL3 (belowD 14 s).2).2 w' from
    l01Pick_any setL3 _ 3 g _ _ (hRC1.alloc _).cur (lit_rd w1 cs 9 _ h) (fun ad e=>by injection e with e;subst e;simp only;omega) (by simp [setL3]) (by simp [setL3]))
   have HP:=Lib.hid hP;have HR1:=Lib.hid hRC1;clear hP hRC1;generalize pickD setL3 (belowD 14 s).2 = nm at HP HE;go_wp2_with fail
   refine (HP.out _ rfl).mono ?_;rintro e w2 ⟨rfl,hw2⟩;have hRC2:=(HR1.out.alloc _).go hw2;have hsz2:=hw2.2.size;clear hw2;have hT:=(show Calls Try.prog 99 #[.pointer (some ⟨g,0,none⟩),.int .i64 2] w2 (TmDrawn w2 g (termD 2 nm.2)) from l03Term_any 2 (by omega) g nm.2 w2 hRC2.cur)
   have HT:=Lib.hid hT;have HR2:=Lib.hid hRC2;clear hT hRC2;generalize termD 2 nm.2 = T at HT HE;go_wp2_with fail
   refine HT.out.mono ?_;rintro e w3 ⟨A3,c3,rfl,hk3,hw3⟩;have hRC3:=HR2.out.go hw3;have hsz3:=hw3.2.size;have hsl:=HR2.out.lt;clear hw3;have c0:=hRC3.cell 0 rfl;have c1:=hRC3.cell 1 rfl;have c2:=hRC3.cell 2 rfl;have c3':=hRC3.cell 3 rfl;have c4:=hRC3.cell 4 rfl;have c5:=hRC3.cell 5 rfl;have c6:=hRC3.cell 6 rfl;have c7:=hRC3.cell 7 rfl;have f0:=hRC3.free 0;have f1:=hRC3.free 1;have f2:=hRC3.free 2;have f3:=hRC3.free 3;have f4:=hRC3.free 4;have f5:=hRC3.free 5;have f6:=hRC3.free 6;have f7:=hRC3.free 7;have HRL:=Lib.hid hRC3;clear hRC3;go_wp2_with fail
   have hfin:=HRL.out.set8 (.int .i64 1) (.string nm.1) (.int .i64 T.1.kind) (.int .i64 T.1.num) (.string T.1.name) (.slice A3 T.1.kids.length c3) (nilV) (nilV);refine bodyPost_ret (results_cell_row rfl _ _ _ _ _ _ _ rfl hfin.blk Try.underlying106 rfl (by kernel_rfl)) rfl ?_;rw [HE.out];have hF:=set8_fr w3 w.heap.size (.int .i64 1) (.string nm.1) (.int .i64 T.1.kind) (.int .i64 T.1.num) (.string T.1.name) (.slice A3 T.1.kids.length c3) (nilV) (nilV);refine ⟨_,rfl,?_,hfin.went⟩;simp only [StIn];exact ⟨A3,c3,rfl,kids_mono (kids_fr hk3 hF (fun b h1 h2 e=>by omega) (Nat.le_refl _)) (by omega) hF.size⟩
  ·
   have y0 : ¬ (((belowD 14 s).1 : Nat) : Int) < 4:=by omega
   by_cases h6 : (belowD 14 s).1 < 6
   ·
    have HE:=Lib.hid (HZ.trans (simpleD_lock _ h4 h6));have y1 : (((belowD 14 s).1 : Nat) : Int) < 6:=by omega
    clear HZ
    go_enter Try.func85, Try.ntmps85
    go_wp2_with fail
    refine (HB.out _ HS.out.cur).mono ?_;rintro e w1 ⟨rfl,hw1⟩;have hRC1:=HS.out.go hw1;clear hw1;have hsz1:=hRC1.lt;have hgw:=hRC1.hg;have hP:=fun (cs : Array Value) (h : cs.toList = lockL.map sv)=>(show Calls Try.prog 86 #[.pointer (some ⟨g,0,none⟩),.slice (some ⟨w1.heap.size,0,none⟩) 3 3] (w1.alloc (.cells cs 9)) fun e w'=>e = .returned (.string (pickD lockL (belowD 14 s).2).1) ∧ Went (w1.alloc (.cells cs 9)) g (pickD lockL (belowD 14 s).2).2 w' from
     l01Pick_any lockL _ 3 g _ _ (hRC1.alloc _).cur (lit_rd w1 cs 9 _ h) (fun ad e=>by injection e with e;subst e;simp only;omega) (by simp [lockL]) (by simp [lockL]))
    have HP:=Lib.hid hP;have HR1:=Lib.hid hRC1;clear hP hRC1;generalize pickD lockL (belowD 14 s).2 = nm at HP HE;go_wp2_with fail
    refine (HP.out _ rfl).mono ?_;rintro e w2 ⟨rfl,hw2⟩;have hRC2:=(HR1.out.alloc _).go hw2;have hsz2:=hw2.2.size;clear hw2;have c0:=hRC2.cell 0 rfl;have c1:=hRC2.cell 1 rfl;have c2:=hRC2.cell 2 rfl;have c3:=hRC2.cell 3 rfl;have c4:=hRC2.cell 4 rfl;have c5:=hRC2.cell 5 rfl;have c6:=hRC2.cell 6 rfl;have c7:=hRC2.cell 7 rfl;have f0:=hRC2.free 0;have f1:=hRC2.free 1;have f2:=hRC2.free 2;have f3:=hRC2.free 3;have f4:=hRC2.free 4;have f5:=hRC2.free 5;have f6:=hRC2.free 6;have f7:=hRC2.free 7;have HRL:=Lib.hid hRC2;clear hRC2;go_wp2_with fail
    have hfin:=HRL.out.set8 (.int .i64 6) (.string nm.1) (.int .i64 0) (.int .i64 0) (.string ⟨#[]⟩) (nilV) (nilV) (nilV);refine bodyPost_ret (results_cell_row rfl _ _ _ _ _ _ _ rfl hfin.blk Try.underlying106 rfl (by kernel_rfl)) rfl ?_;rw [HE.out];exact ⟨_,rfl,by simp only [StIn],hfin.went⟩
   ·
    have y1 : ¬ (((belowD 14 s).1 : Nat) : Int) < 6:=by omega
    by_cases h8 : (belowD 14 s).1 < 8
    ·
     have HE:=Lib.hid (HZ.trans (simpleD_unlock _ h4 h6 h8));have y2 : (((belowD 14 s).1 : Nat) : Int) < 8:=by omega
     clear HZ
     go_enter Try.func85, Try.ntmps85
     go_wp2_with fail
     refine (HB.out _ HS.out.cur).mono ?_;rintro e w1 ⟨rfl,hw1⟩;have hRC1:=HS.out.go hw1;clear hw1;have hsz1:=hRC1.lt;have hgw:=hRC1.hg;have hP:=fun (cs : Array Value) (h : cs.toList = lockL.map sv)=>(show Calls Try.prog 86 #[.pointer (some ⟨g,0,none⟩),.slice (some ⟨w1.heap.size,0,none⟩) 3 3] (w1.alloc (.cells cs 9)) fun e w'=>e = .returned (.string (pickD lockL (belowD 14 s).2).1) ∧ Went (w1.alloc (.cells cs 9)) g (pickD lockL (belowD 14 s).2).2 w' from
      l01Pick_any lockL _ 3 g _ _ (hRC1.alloc _).cur (lit_rd w1 cs 9 _ h) (fun ad e=>by injection e with e;subst e;simp only;omega) (by simp [lockL]) (by simp [lockL]))
     have HP:=Lib.hid hP;have HR1:=Lib.hid hRC1;clear hP hRC1;generalize pickD lockL (belowD 14 s).2 = nm at HP HE;go_wp2_with fail
     refine (HP.out _ rfl).mono ?_;rintro e w2 ⟨rfl,hw2⟩;have hRC2:=(HR1.out.alloc _).go hw2;have hsz2:=hw2.2.size;clear hw2;have c0:=hRC2.cell 0 rfl;have c1:=hRC2.cell 1 rfl;have c2:=hRC2.cell 2 rfl;have c3:=hRC2.cell 3 rfl;have c4:=hRC2.cell 4 rfl;have c5:=hRC2.cell 5 rfl;have c6:=hRC2.cell 6 rfl;have c7:=hRC2.cell 7 rfl;have f0:=hRC2.free 0;have f1:=hRC2.free 1;have f2:=hRC2.free 2;have f3:=hRC2.free 3;have f4:=hRC2.free 4;have f5:=hRC2.free 5;have f6:=hRC2.free 6;have f7:=hRC2.free 7;have HRL:=Lib.hid hRC2;clear hRC2;go_wp2_with fail
     have hfin:=HRL.out.set8 (.int .i64 7) (.string nm.1) (.int .i64 0) (.int .i64 0) (.string ⟨#[]⟩) (nilV) (nilV) (nilV);refine bodyPost_ret (results_cell_row rfl _ _ _ _ _ _ _ rfl hfin.blk Try.underlying106 rfl (by kernel_rfl)) rfl ?_;rw [HE.out];exact ⟨_,rfl,by simp only [StIn],hfin.went⟩
    ·
     have y2 : ¬ (((belowD 14 s).1 : Nat) : Int) < 8:=by omega
     by_cases e8 : (belowD 14 s).1 = 8
     ·
      have HE:=Lib.hid (HZ.trans (simpleD_call _ e8));have y3 : (((belowD 14 s).1 : Nat) : Int) = 8:=by omega
      clear HZ
      go_enter Try.func85, Try.ntmps85
      go_wp2_with fail
      refine (HB.out _ HS.out.cur).mono ?_;rintro e w1 ⟨rfl,hw1⟩;have hRC1:=HS.out.go hw1;clear hw1;have hsz1:=hRC1.lt;have hgw:=hRC1.hg;have hP:=fun (cs : Array Value) (h : cs.toList = callL3.map sv)=>(show Calls Try.prog 86 #[.pointer (some ⟨g,0,none⟩),.slice (some ⟨w1.heap.size,0,none⟩) 3 3] (w1.alloc (.cells cs 9)) fun e w'=>e = .returned (.string (pickD callL3 (belowD 14 s).2).1) ∧ Went (w1.alloc (.cells cs 9)) g (pickD callL3 (belowD 14 s).2).2 w' from
       l01Pick_any callL3 _ 3 g _ _ (hRC1.alloc _).cur (lit_rd w1 cs 9 _ h) (fun ad e=>by injection e with e;subst e;simp only;omega) (by simp [callL3]) (by simp [callL3]))
      have HP:=Lib.hid hP;have HR1:=Lib.hid hRC1;clear hP hRC1;generalize pickD callL3 (belowD 14 s).2 = nm at HP HE;go_wp2_with fail
      refine (HP.out _ rfl).mono ?_;rintro e w2 ⟨rfl,hw2⟩;have hRC2:=(HR1.out.alloc _).go hw2;have hsz2:=hw2.2.size;clear hw2;have c0:=hRC2.cell 0 rfl;have c1:=hRC2.cell 1 rfl;have c2:=hRC2.cell 2 rfl;have c3:=hRC2.cell 3 rfl;have c4:=hRC2.cell 4 rfl;have c5:=hRC2.cell 5 rfl;have c6:=hRC2.cell 6 rfl;have c7:=hRC2.cell 7 rfl;have f0:=hRC2.free 0;have f1:=hRC2.free 1;have f2:=hRC2.free 2;have f3:=hRC2.free 3;have f4:=hRC2.free 4;have f5:=hRC2.free 5;have f6:=hRC2.free 6;have f7:=hRC2.free 7;have HRL:=Lib.hid hRC2;clear hRC2;go_wp2_with fail
      have hfin:=HRL.out.set8 (.int .i64 4) (.string nm.1) (.int .i64 0) (.int .i64 0) (.string ⟨#[]⟩) (nilV) (nilV) (nilV);refine bodyPost_ret (results_cell_row rfl _ _ _ _ _ _ _ rfl hfin.blk Try.underlying106 rfl (by kernel_rfl)) rfl ?_;rw [HE.out];exact ⟨_,rfl,by simp only [StIn],hfin.went⟩
     ·
      have y3 : ¬ (((belowD 14 s).1 : Nat) : Int) = 8:=by omega
      by_cases e9 : (belowD 14 s).1 = 9
      ·
       have HE:=Lib.hid (HZ.trans (simpleD_spawn _ e9));have y4 : (((belowD 14 s).1 : Nat) : Int) = 9:=by omega
       clear HZ
       go_enter Try.func85, Try.ntmps85
       go_wp2_with fail
       refine (HB.out _ HS.out.cur).mono ?_;rintro e w1 ⟨rfl,hw1⟩;have hRC1:=HS.out.go hw1;clear hw1;have hsz1:=hRC1.lt;have hgw:=hRC1.hg;have hP:=fun (cs : Array Value) (h : cs.toList = callL3.map sv)=>(show Calls Try.prog 86 #[.pointer (some ⟨g,0,none⟩),.slice (some ⟨w1.heap.size,0,none⟩) 3 3] (w1.alloc (.cells cs 9)) fun e w'=>e = .returned (.string (pickD callL3 (belowD 14 s).2).1) ∧ Went (w1.alloc (.cells cs 9)) g (pickD callL3 (belowD 14 s).2).2 w' from
        l01Pick_any callL3 _ 3 g _ _ (hRC1.alloc _).cur (lit_rd w1 cs 9 _ h) (fun ad e=>by injection e with e;subst e;simp only;omega) (by simp [callL3]) (by simp [callL3]))
       have HP:=Lib.hid hP;have HR1:=Lib.hid hRC1;clear hP hRC1;generalize pickD callL3 (belowD 14 s).2 = nm at HP HE;go_wp2_with fail
       refine (HP.out _ rfl).mono ?_;rintro e w2 ⟨rfl,hw2⟩;have hRC2:=(HR1.out.alloc _).go hw2;have hsz2:=hw2.2.size;clear hw2;have c0:=hRC2.cell 0 rfl;have c1:=hRC2.cell 1 rfl;have c2:=hRC2.cell 2 rfl;have c3:=hRC2.cell 3 rfl;have c4:=hRC2.cell 4 rfl;have c5:=hRC2.cell 5 rfl;have c6:=hRC2.cell 6 rfl;have c7:=hRC2.cell 7 rfl;have f0:=hRC2.free 0;have f1:=hRC2.free 1;have f2:=hRC2.free 2;have f3:=hRC2.free 3;have f4:=hRC2.free 4;have f5:=hRC2.free 5;have f6:=hRC2.free 6;have f7:=hRC2.free 7;have HRL:=Lib.hid hRC2;clear hRC2;go_wp2_with fail
       have hfin:=HRL.out.set8 (.int .i64 5) (.string nm.1) (.int .i64 0) (.int .i64 0) (.string ⟨#[]⟩) (nilV) (nilV) (nilV);refine bodyPost_ret (results_cell_row rfl _ _ _ _ _ _ _ rfl hfin.blk Try.underlying106 rfl (by kernel_rfl)) rfl ?_;rw [HE.out];exact ⟨_,rfl,by simp only [StIn],hfin.went⟩
      ·
       have HE:=Lib.hid (HZ.trans (simpleD_skip _ (by omega)));have y4 : ¬ (((belowD 14 s).1 : Nat) : Int) = 9:=by omega
       have y5 : (((belowD 14 s).1 : Nat) : Int) = 10:=by omega
       clear HZ
       go_enter Try.func85, Try.ntmps85
       go_wp2_with fail
       refine (HB.out _ HS.out.cur).mono ?_;rintro e w1 ⟨rfl,hw1⟩;have hRC1:=HS.out.go hw1;clear hw1;have c0:=hRC1.cell 0 rfl;have c1:=hRC1.cell 1 rfl;have c2:=hRC1.cell 2 rfl;have c3:=hRC1.cell 3 rfl;have c4:=hRC1.cell 4 rfl;have c5:=hRC1.cell 5 rfl;have c6:=hRC1.cell 6 rfl;have c7:=hRC1.cell 7 rfl;have f0:=hRC1.free 0;have f1:=hRC1.free 1;have f2:=hRC1.free 2;have f3:=hRC1.free 3;have f4:=hRC1.free 4;have f5:=hRC1.free 5;have f6:=hRC1.free 6;have f7:=hRC1.free 7;have HRL:=Lib.hid hRC1;clear hRC1;go_wp2_with fail
       have hfin:=HRL.out.set8 (.int .i64 8) (.string ⟨#[]⟩) (.int .i64 0) (.int .i64 0) (.string ⟨#[]⟩) (nilV) (nilV) (nilV);refine bodyPost_ret (results_cell_row rfl _ _ _ _ _ _ _ rfl hfin.blk Try.underlying106 rfl (by kernel_rfl)) rfl ?_;rw [HE.out];exact ⟨_,rfl,by simp only [StIn],hfin.went⟩
end Go.Proofs.Ytkgoajnnkimkaaa
