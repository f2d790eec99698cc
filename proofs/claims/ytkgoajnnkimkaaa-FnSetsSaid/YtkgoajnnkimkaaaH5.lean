/- Contract of the reference's l03Term: a drawn term. -/
import Derived.Test.YtkgoajnnkimkaaaH4
set_option linter.unusedSimpArgs false
set_option linter.unusedVariables false
set_option maxRecDepth 100000
set_option maxHeartbeats 16000000
namespace Go.Proofs.Ytkgoajnnkimkaaa
open Go.ChangeShapes Go.WideShapes Go.ChangeAt Go.RowKit
structure RC (w W : World) (g : Nat) (s : Cr) (r : Nat) (cs : Array Value) (t : TypeId) : Prop where
 went : Went w g s W
 blk : W.heap[r]? = some (.cells cs t)
 hr : w.heap.size ≤ r
 hg : g < w.heap.size
section
variable {w W W' : World} {g r : Nat} {s s' : Cr} {cs : Array Value} {t : TypeId}
theorem RC.start (hc : CurAt w g s) (cs : Array Value) (t : TypeId) : RC w (w.alloc (.cells cs t)) g s w.heap.size cs t :=
 ⟨⟨hc.below (below_alloc0 _ _),Fr.of_below (below_alloc0 _ _)⟩,heap_alloc_new w _,Nat.le_refl _,hc.lt⟩
theorem RC.lt (h : RC w W g s r cs t) : r < W.heap.size:=(Array.getElem?_eq_some_iff.1 h.blk).1
theorem RC.go (h : RC w W g s r cs t) (k : Went W g s' W') : RC w W' g s' r cs t :=
 ⟨h.went.trans k,(k.2.block r h.lt (by have:=h.hr;have:=h.hg;omega)).trans h.blk,h.hr,h.hg⟩
theorem RC.more (h : RC w W g s r cs t) (hb : Below W.heap.size W W') : RC w W' g s r cs t :=
 ⟨⟨h.went.1.below hb,h.went.2.trans (Fr.of_below hb)⟩,(hb.block r h.lt).trans h.blk,h.hr,h.hg⟩
theorem RC.alloc (h : RC w W g s r cs t) (o : Obj) : RC w (W.alloc o) g s r cs t:=h.more (below_alloc0 _ _)
theorem RC.set (h : RC w W g s r cs t) (j : Nat) (v : Value) : RC w (W.setCell ⟨r,j,none⟩ v) g s r (cs.setIfInBounds j v) t:=by
 have hr:=h.hr;have hg:=h.hg;have hf : Fr (· = r) W (W.setCell ⟨r,j,none⟩ v):=Fr.set (S:=(· = r)) (Fr.refl _ _) (a:=⟨r,j,none⟩) (fun _=>rfl) v;exact ⟨⟨h.went.1.fr hf (fun b hb e=>by omega),h.went.2.set (a:=⟨r,j,none⟩) (fun hlt=>absurd hlt (by simp only;omega)) v⟩,set_row h.blk j v,hr,hg⟩
theorem RC.cur (h : RC w W g s r cs t) : CurAt W g s:=h.went.1
theorem RC.cell (h : RC w W g s r cs t) (j : Nat) {u : Value} (hu : cs[j]? = some u) : W.cell? ⟨r,j,none⟩ = some u:=(row_facts h.blk).1 j u hu
theorem RC.free (h : RC w W g s r cs t) (j : Nat) : W.frozen? ⟨r,j,none⟩ = false:=(row_facts h.blk).2 j
end
theorem lit_rd (W : World) (cs : Array Value) (t : TypeId) (xs : List Value) (h : cs.toList = xs) : Rd (W.alloc (.cells cs t)) (W.heap.size + 1) (some ⟨W.heap.size,0,none⟩) xs:=by
 intro j u hu;refine ⟨_,rfl,Nat.lt_succ_self _,?_⟩;rw [add_mk,cell_of_row _ _ _ _ _ _ (heap_alloc_new W _)];subst h;simpa using hu
theorem high_fr {S : Nat → Prop} {w w' : World} {lo lo' : Nat} (hl : lo' ≤ lo) (hf : Fr S w w') (hS : ∀ b,lo ≤ b → ¬ S b) : ∀ p u,(High w lo).cell? p = some u → (High w' lo').cell? p = some u :=
 fun p u h=>high_keep hl (fun b h1 h2=>hf.block b h2 (hS b h1)) h
theorem KidsAt.fr {S : Nat → Prop} {w w' : World} {lo lo' B : Nat} {A : Option Addr} {ks : List Tm} (h : KidsAt (High w lo) B A ks) (hf : Fr S w w') (hl : lo' ≤ lo) (hS : ∀ b,lo ≤ b → ¬ S b) : KidsAt (High w' lo') B A ks :=
 h.sub (Nat.le_refl _) (high_fr hl hf hS)
theorem kids_nil (w : World) (B : Nat) (A : Option Addr) : KidsAt w B A []:=⟨fun _=>[],fun i hi=>by simp at hi,fun i hi=>by simp at hi⟩
theorem high_row {w : World} {lo b off : Nat} {cs : Array Value} {t : TypeId} {xs : List Value} {B : Nat} (hh : w.heap[b]? = some (.cells cs t)) (hlo : lo ≤ b) (hB : b < B) (hx : ∀ j u,xs[j]? = some u → cs[off + j]? = some u) : Row (High w lo) B (some ⟨b,0,none⟩) off xs:=by
 intro j u hu;refine ⟨_,rfl,hB,high_some.2 ⟨by rw [block_of_add];exact hlo,?_,cs,t,by rw [block_of_add];exact hh⟩⟩;rw [add_mk,cell_of_row _ _ _ _ _ _ hh];exact hx j u hu
theorem kids_one {w : World} {lo B b c : Nat} {A : Option Addr} {t : Tm} {ty : TypeId} (hh : w.heap[b]? = some (.cells #[.int .i64 t.kind,.int .i64 t.num,.string t.name,.slice A t.kids.length c] ty)) (hlo : lo ≤ b) (hB : b < B) (hk : KidsAt (High w lo) B A t.kids) : KidsAt (High w lo) B (some ⟨b,0,none⟩) [t]:=by
 refine ⟨fun _=>[.int .i64 t.kind,.int .i64 t.num,.string t.name,.slice A t.kids.length c],fun i hi=>?_,fun i hi=>?_⟩
 ·
  obtain rfl : i = 0:=by simp at hi;omega
  exact high_row hh hlo hB (fun j u hu=>by simpa using hu)
 ·
  obtain rfl : i = 0:=by simp at hi;omega
  exact TmAt.make hk
theorem kids_two {w : World} {lo B b c c' : Nat} {A A' : Option Addr} {t t' : Tm} {ty : TypeId} (hh : w.heap[b]? = some (.cells #[.int .i64 t.kind, .int .i64 t.num, .string t.name, .slice A t.kids.length c, .int .i64 t'.kind, .int .i64 t'.num, .string t'.name, .slice A' t'.kids.length c'] ty))
  (hlo : lo ≤ b) (hB : b < B) (hk : KidsAt (High w lo) B A t.kids) (hk' : KidsAt (High w lo) B A' t'.kids) : KidsAt (High w lo) B (some ⟨b,0,none⟩) [t,t']:=by
 refine ⟨fun i=>if i = 0 then [.int .i64 t.kind,.int .i64 t.num,.string t.name,.slice A t.kids.length c] else [.int .i64 t'.kind,.int .i64 t'.num,.string t'.name,.slice A' t'.kids.length c'],fun i hi=>?_,fun i hi=>?_⟩
 ·
  obtain rfl | rfl : i = 0 ∨ i = 1:=by simp at hi;omega
  ·
   show Row (High w lo) B (some ⟨b,0,none⟩) 0 [.int .i64 t.kind,.int .i64 t.num,.string t.name,.slice A t.kids.length c]
   exact high_row hh hlo hB (fun j u hu=>by
    have hj : j < 4:=(List.getElem?_eq_some_iff.1 hu).1;obtain rfl | rfl | rfl | rfl : j = 0 ∨ j = 1 ∨ j = 2 ∨ j = 3:=by omega
    all_goals simpa using hu)
  ·
   show Row (High w lo) B (some ⟨b,0,none⟩) 4 [.int .i64 t'.kind,.int .i64 t'.num,.string t'.name,.slice A' t'.kids.length c']
   exact high_row hh hlo hB (fun j u hu=>by
    have hj : j < 4:=(List.getElem?_eq_some_iff.1 hu).1;obtain rfl | rfl | rfl | rfl : j = 0 ∨ j = 1 ∨ j = 2 ∨ j = 3:=by omega
    all_goals simpa using hu)
 ·
  obtain rfl | rfl : i = 0 ∨ i = 1:=by simp at hi;omega
  · exact TmAt.make hk
  · exact TmAt.make hk'
theorem set4_fr (W : World) (r : Nat) (v0 v1 v2 v3 : Value) : Fr (· = r) W ((((W.setCell ⟨r,0,none⟩ v0).setCell ⟨r,1,none⟩ v1).setCell ⟨r,2,none⟩ v2).setCell ⟨r,3,none⟩ v3) :=
 ((((Fr.refl (· = r) W).set (a:=⟨r,0,none⟩) (fun _=>rfl) v0).set (a:=⟨r,1,none⟩) (fun _=>rfl) v1).set (a:=⟨r,2,none⟩) (fun _=>rfl) v2).set (a:=⟨r,3,none⟩) (fun _=>rfl) v3
def TmDrawn (w : World) (g : Nat) (t : Tm × Cr) (e : Ending) (w' : World) : Prop :=
 ∃ A c,e = .returned (.agg #[.int .i64 t.1.kind,.int .i64 t.1.num,.string t.1.name,.slice A t.1.kids.length c]) ∧ KidsAt (High w' w.heap.size) w'.heap.size A t.1.kids ∧ Went w g t.2 w'
theorem leafD_num {k : Nat} (s : Cr) (h : k < 3) : leafD k s = (.mk 1 (pickI numL s).1 ⟨#[]⟩ [],(pickI numL s).2):=if_pos h
theorem leafD_var {k : Nat} (s : Cr) (h : ¬ k < 3) : leafD k s = (.mk 2 0 (pickD readL s).1 [],(pickD readL s).2):=if_neg h
theorem l03Term_zero (g : Nat) (s : Cr) (w : World) (hc : CurAt w g s) : Calls Try.prog 99 #[.pointer (some ⟨g,0,none⟩),.int .i64 0] w (TmDrawn w g (termD 0 s)):=by
 have HB:=Lib.hid (fun W (hc : CurAt W g s)=>l01Below_any 12 g s W hc (by omega) (by omega));have HS:=Lib.hid (RC.start hc #[.int .i64 0,.int .i64 0,.string ⟨#[]⟩,.slice none 0 0] 75);have hlt12:=belowD_lt (n:=12) s (by omega);have HT:=Lib.hid (show termD 0 s = leafD ((belowD 12 s).1 % 6) (belowD 12 s).2 from rfl);clear hc;by_cases h6 : 6 ≤ (belowD 12 s).1
 ·
  by_cases h3 : (belowD 12 s).1 - 6 < 3
  ·
   have HE:=Lib.hid (HT.out.trans (leafD_num _ (by omega)));have z1 : (6 : Int) ≤ ((belowD 12 s).1 : Int):=by omega
   have z2 : ((belowD 12 s).1 : Int) - 6 < 3:=by omega
   go_enter Try.func99, Try.ntmps99
   go_wp2_with fail
   refine (HB.out _ HS.out.cur).mono ?_;rintro e w1 ⟨rfl,hw1⟩;have hRC1:=HS.out.go hw1;clear hw1;have hsz1:=hRC1.lt;have hgw:=hRC1.hg;have hP:=fun (cs : Array Value) (h : cs.toList = numL.map iv)=>(show Calls Try.prog 111 #[.pointer (some ⟨g,0,none⟩),.slice (some ⟨w1.heap.size,0,none⟩) 8 8] (w1.alloc (.cells cs 3)) fun e w'=>e = .returned (.int .i64 (pickI numL (belowD 12 s).2).1) ∧ Went (w1.alloc (.cells cs 3)) g (pickI numL (belowD 12 s).2).2 w' from
    l01PickInt_any numL _ 8 g _ _ (hRC1.alloc _).cur (lit_rd w1 cs 3 _ h) (fun ad e=>by injection e with e;subst e;simp only;omega) (by simp [numL]) (by simp [numL]))
   have HP:=Lib.hid hP;have HR1:=Lib.hid hRC1;clear hP hRC1;go_wp2_with fail
   refine (HP.out _ rfl).mono ?_;rintro e w2 ⟨rfl,hw2⟩;have hRC2:=(HR1.out.alloc _).go hw2;have c0:=hRC2.cell 0 rfl;have c1:=hRC2.cell 1 rfl;have c2:=hRC2.cell 2 rfl;have c3:=hRC2.cell 3 rfl;have f0:=hRC2.free 0;have f1:=hRC2.free 1;have f2:=hRC2.free 2;have f3:=hRC2.free 3;have HR2:=Lib.hid hRC2;clear hRC2 hw2;go_wp2_with fail
   have hfin:=(((HR2.out.set 0 (.int .i64 1)).set 1 (.int .i64 (pickI numL (belowD 12 s).2).1)).set 2 (.string ⟨#[]⟩)).set 3 (.slice none 0 0);refine bodyPost_ret (results_cell_row rfl _ _ _ _ _ _ _ rfl hfin.blk Try.underlying75 rfl (by kernel_rfl)) rfl ?_;rw [HE.out];exact ⟨none,0,rfl,kids_nil _ _ _,hfin.went⟩
  ·
   have HE:=Lib.hid (HT.out.trans (leafD_var _ (by omega)));have z1 : (6 : Int) ≤ ((belowD 12 s).1 : Int):=by omega
   have z2 : ¬ ((belowD 12 s).1 : Int) - 6 < 3:=by omega
   have z3 : ((belowD 12 s).1 : Int) - 6 < 6:=by omega
   go_enter Try.func99, Try.ntmps99
   go_wp2_with fail
   refine (HB.out _ HS.out.cur).mono ?_;rintro e w1 ⟨rfl,hw1⟩;have hRC1:=HS.out.go hw1;clear hw1;have hsz1:=hRC1.lt;have hgw:=hRC1.hg;have hP:=fun (cs : Array Value) (h : cs.toList = readL.map sv)=>(show Calls Try.prog 86 #[.pointer (some ⟨g,0,none⟩),.slice (some ⟨w1.heap.size,0,none⟩) 5 5] (w1.alloc (.cells cs 9)) fun e w'=>e = .returned (.string (pickD readL (belowD 12 s).2).1) ∧ Went (w1.alloc (.cells cs 9)) g (pickD readL (belowD 12 s).2).2 w' from
    l01Pick_any readL _ 5 g _ _ (hRC1.alloc _).cur (lit_rd w1 cs 9 _ h) (fun ad e=>by injection e with e;subst e;simp only;omega) (by simp [readL]) (by simp [readL]))
   have HP:=Lib.hid hP;have HR1:=Lib.hid hRC1;clear hP hRC1;go_wp2_with fail
   refine (HP.out _ rfl).mono ?_;rintro e w2 ⟨rfl,hw2⟩;have hRC2:=(HR1.out.alloc _).go hw2;have c0:=hRC2.cell 0 rfl;have c1:=hRC2.cell 1 rfl;have c2:=hRC2.cell 2 rfl;have c3:=hRC2.cell 3 rfl;have f0:=hRC2.free 0;have f1:=hRC2.free 1;have f2:=hRC2.free 2;have f3:=hRC2.free 3;have HR2:=Lib.hid hRC2;clear hRC2 hw2;go_wp2_with fail
   have hfin:=(((HR2.out.set 0 (.int .i64 2)).set 1 (.int .i64 0)).set 2 (.string (pickD readL (belowD 12 s).2).1)).set 3 (.slice none 0 0);refine bodyPost_ret (results_cell_row rfl _ _ _ _ _ _ _ rfl hfin.blk Try.underlying75 rfl (by kernel_rfl)) rfl ?_;rw [HE.out];exact ⟨none,0,rfl,kids_nil _ _ _,hfin.went⟩
 ·
  by_cases h3 : (belowD 12 s).1 < 3
  ·
   have HE:=Lib.hid (HT.out.trans (leafD_num _ (by omega)));have z1 : ¬ (6 : Int) ≤ ((belowD 12 s).1 : Int):=by omega
   have z2 : ((belowD 12 s).1 : Int) < 3:=by omega
   go_enter Try.func99, Try.ntmps99
   go_wp2_with fail
   refine (HB.out _ HS.out.cur).mono ?_;rintro e w1 ⟨rfl,hw1⟩;have hRC1:=HS.out.go hw1;clear hw1;have hsz1:=hRC1.lt;have hgw:=hRC1.hg;have hP:=fun (cs : Array Value) (h : cs.toList = numL.map iv)=>(show Calls Try.prog 111 #[.pointer (some ⟨g,0,none⟩),.slice (some ⟨w1.heap.size,0,none⟩) 8 8] (w1.alloc (.cells cs 3)) fun e w'=>e = .returned (.int .i64 (pickI numL (belowD 12 s).2).1) ∧ Went (w1.alloc (.cells cs 3)) g (pickI numL (belowD 12 s).2).2 w' from
    l01PickInt_any numL _ 8 g _ _ (hRC1.alloc _).cur (lit_rd w1 cs 3 _ h) (fun ad e=>by injection e with e;subst e;simp only;omega) (by simp [numL]) (by simp [numL]))
   have HP:=Lib.hid hP;have HR1:=Lib.hid hRC1;clear hP hRC1;go_wp2_with fail
   refine (HP.out _ rfl).mono ?_;rintro e w2 ⟨rfl,hw2⟩;have hRC2:=(HR1.out.alloc _).go hw2;have c0:=hRC2.cell 0 rfl;have c1:=hRC2.cell 1 rfl;have c2:=hRC2.cell 2 rfl;have c3:=hRC2.cell 3 rfl;have f0:=hRC2.free 0;have f1:=hRC2.free 1;have f2:=hRC2.free 2;have f3:=hRC2.free 3;have HR2:=Lib.hid hRC2;clear hRC2 hw2;go_wp2_with fail
   have hfin:=(((HR2.out.set 0 (.int .i64 1)).set 1 (.int .i64 (pickI numL (belowD 12 s).2).1)).set 2 (.string ⟨#[]⟩)).set 3 (.slice none 0 0);refine bodyPost_ret (results_cell_row rfl _ _ _ _ _ _ _ rfl hfin.blk Try.underlying75 rfl (by kernel_rfl)) rfl ?_;rw [HE.out];exact ⟨none,0,rfl,kids_nil _ _ _,hfin.went⟩
  ·
   have HE:=Lib.hid (HT.out.trans (leafD_var _ (by omega)));have z1 : ¬ (6 : Int) ≤ ((belowD 12 s).1 : Int):=by omega
   have z2 : ¬ ((belowD 12 s).1 : Int) < 3:=by omega
   have z3 : ((belowD 12 s).1 : Int) < 6:=by omega
   go_enter Try.func99, Try.ntmps99
   go_wp2_with fail
   refine (HB.out _ HS.out.cur).mono ?_;rintro e w1 ⟨rfl,hw1⟩;have hRC1:=HS.out.go hw1;clear hw1;have hsz1:=hRC1.lt;have hgw:=hRC1.hg;have hP:=fun (cs : Array Value) (h : cs.toList = readL.map sv)=>(show Calls Try.prog 86 #[.pointer (some ⟨g,0,none⟩),.slice (some ⟨w1.heap.size,0,none⟩) 5 5] (w1.alloc (.cells cs 9)) fun e w'=>e = .returned (.string (pickD readL (belowD 12 s).2).1) ∧ Went (w1.alloc (.cells cs 9)) g (pickD readL (belowD 12 s).2).2 w' from
    l01Pick_any readL _ 5 g _ _ (hRC1.alloc _).cur (lit_rd w1 cs 9 _ h) (fun ad e=>by injection e with e;subst e;simp only;omega) (by simp [readL]) (by simp [readL]))
   have HP:=Lib.hid hP;have HR1:=Lib.hid hRC1;clear hP hRC1;go_wp2_with fail
   refine (HP.out _ rfl).mono ?_;rintro e w2 ⟨rfl,hw2⟩;have hRC2:=(HR1.out.alloc _).go hw2;have c0:=hRC2.cell 0 rfl;have c1:=hRC2.cell 1 rfl;have c2:=hRC2.cell 2 rfl;have c3:=hRC2.cell 3 rfl;have f0:=hRC2.free 0;have f1:=hRC2.free 1;have f2:=hRC2.free 2;have f3:=hRC2.free 3;have HR2:=Lib.hid hRC2;clear hRC2 hw2;go_wp2_with fail
   have hfin:=(((HR2.out.set 0 (.int .i64 2)).set 1 (.int .i64 0)).set 2 (.string (pickD readL (belowD 12 s).2).1)).set 3 (.slice none 0 0);refine bodyPost_ret (results_cell_row rfl _ _ _ _ _ _ _ rfl hfin.blk Try.underlying75 rfl (by kernel_rfl)) rfl ?_;rw [HE.out];exact ⟨none,0,rfl,kids_nil _ _ _,hfin.went⟩
theorem l03Term_succ (d : Nat) (hd : d ≤ 100) (ih : ∀ (g : Nat) (s : Cr) (w : World), CurAt w g s → Calls Try.prog 99 #[.pointer (some ⟨g, 0, none⟩), .int .i64 (d : Int)] w (TmDrawn w g (termD d s)))
  (g : Nat) (s : Cr) (w : World) (hc : CurAt w g s) : Calls Try.prog 99 #[.pointer (some ⟨g,0,none⟩),.int .i64 ((d : Int) + 1)] w (TmDrawn w g (termD (d + 1) s)):=by
 have HB:=Lib.hid (fun W (hc : CurAt W g s)=>l01Below_any 12 g s W hc (by omega) (by omega));have HS:=Lib.hid (RC.start hc #[.int .i64 0,.int .i64 0,.string ⟨#[]⟩,.slice none 0 0] 75);have hlt12:=belowD_lt (n:=12) s (by omega);have HI:=Lib.hid ih;have z0 : ¬ ((d : Int) + 1 ≤ 0):=by omega
 have z9 : (d : Int) + 1 - 1 = d:=by omega
 clear hc ih;by_cases h3 : (belowD 12 s).1 < 3
 ·
  have HE:=Lib.hid (show termD (d + 1) s = _ from (if_pos (show (belowD 12 s).1 < 6 by omega)).trans (leafD_num _ h3));have z2 : ((belowD 12 s).1 : Int) < 3:=by omega
  go_enter Try.func99, Try.ntmps99
  go_wp2_with fail
  refine (HB.out _ HS.out.cur).mono ?_;rintro e w1 ⟨rfl,hw1⟩;have hRC1:=HS.out.go hw1;clear hw1;have hsz1:=hRC1.lt;have hgw:=hRC1.hg;have hP:=fun (cs : Array Value) (h : cs.toList = numL.map iv)=>(show Calls Try.prog 111 #[.pointer (some ⟨g,0,none⟩),.slice (some ⟨w1.heap.size,0,none⟩) 8 8] (w1.alloc (.cells cs 3)) fun e w'=>e = .returned (.int .i64 (pickI numL (belowD 12 s).2).1) ∧ Went (w1.alloc (.cells cs 3)) g (pickI numL (belowD 12 s).2).2 w' from
   l01PickInt_any numL _ 8 g _ _ (hRC1.alloc _).cur (lit_rd w1 cs 3 _ h) (fun ad e=>by injection e with e;subst e;simp only;omega) (by simp [numL]) (by simp [numL]))
  have HP:=Lib.hid hP;have HR1:=Lib.hid hRC1;clear hP hRC1;go_wp2_with fail
  refine (HP.out _ rfl).mono ?_;rintro e w2 ⟨rfl,hw2⟩;have hRC2:=(HR1.out.alloc _).go hw2;have c0:=hRC2.cell 0 rfl;have c1:=hRC2.cell 1 rfl;have c2:=hRC2.cell 2 rfl;have c3:=hRC2.cell 3 rfl;have f0:=hRC2.free 0;have f1:=hRC2.free 1;have f2:=hRC2.free 2;have f3:=hRC2.free 3;have HR2:=Lib.hid hRC2;clear hRC2 hw2;go_wp2_with fail
  have hfin:=(((HR2.out.set 0 (.int .i64 1)).set 1 (.int .i64 (pickI numL (belowD 12 s).2).1)).set 2 (.string ⟨#[]⟩)).set 3 (.slice none 0 0);refine bodyPost_ret (results_cell_row rfl _ _ _ _ _ _ _ rfl hfin.blk Try.underlying75 rfl (by kernel_rfl)) rfl ?_;rw [HE.out];exact ⟨none,0,rfl,kids_nil _ _ _,hfin.went⟩
 ·
  by_cases h6 : (belowD 12 s).1 < 6
  ·
   have HE:=Lib.hid (show termD (d + 1) s = _ from (if_pos h6).trans (leafD_var _ h3));have z2 : ¬ ((belowD 12 s).1 : Int) < 3:=by omega
   have z3 : ((belowD 12 s).1 : Int) < 6:=by omega
   go_enter Try.func99, Try.ntmps99
   go_wp2_with fail
   refine (HB.out _ HS.out.cur).mono ?_;rintro e w1 ⟨rfl,hw1⟩;have hRC1:=HS.out.go hw1;clear hw1;have hsz1:=hRC1.lt;have hgw:=hRC1.hg;have hP:=fun (cs : Array Value) (h : cs.toList = readL.map sv)=>(show Calls Try.prog 86 #[.pointer (some ⟨g,0,none⟩),.slice (some ⟨w1.heap.size,0,none⟩) 5 5] (w1.alloc (.cells cs 9)) fun e w'=>e = .returned (.string (pickD readL (belowD 12 s).2).1) ∧ Went (w1.alloc (.cells cs 9)) g (pickD readL (belowD 12 s).2).2 w' from
    l01Pick_any readL _ 5 g _ _ (hRC1.alloc _).cur (lit_rd w1 cs 9 _ h) (fun ad e=>by injection e with e;subst e;simp only;omega) (by simp [readL]) (by simp [readL]))
   have HP:=Lib.hid hP;have HR1:=Lib.hid hRC1;clear hP hRC1;go_wp2_with fail
   refine (HP.out _ rfl).mono ?_;rintro e w2 ⟨rfl,hw2⟩;have hRC2:=(HR1.out.alloc _).go hw2;have c0:=hRC2.cell 0 rfl;have c1:=hRC2.cell 1 rfl;have c2:=hRC2.cell 2 rfl;have c3:=hRC2.cell 3 rfl;have f0:=hRC2.free 0;have f1:=hRC2.free 1;have f2:=hRC2.free 2;have f3:=hRC2.free 3;have HR2:=Lib.hid hRC2;clear hRC2 hw2;go_wp2_with fail
   have hfin:=(((HR2.out.set 0 (.int .i64 2)).set 1 (.int .i64 0)).set 2 (.string (pickD readL (belowD 12 s).2).1)).set 3 (.slice none 0 0);refine bodyPost_ret (results_cell_row rfl _ _ _ _ _ _ _ rfl hfin.blk Try.underlying75 rfl (by kernel_rfl)) rfl ?_;rw [HE.out];exact ⟨none,0,rfl,kids_nil _ _ _,hfin.went⟩
  ·
   by_cases h7 : (belowD 12 s).1 = 6
   ·
    have HE:=Lib.hid (show termD (d + 1) s = (.mk 8 0 ⟨#[]⟩ [(termD d (belowD 12 s).2).1],(termD d (belowD 12 s).2).2) from (if_neg h6).trans (if_pos h7));have HI1:=Lib.hid (fun W (h : CurAt W g (belowD 12 s).2)=>HI.out g (belowD 12 s).2 W h);clear HI;generalize termD d (belowD 12 s).2 = T at HI1 HE;have z2 : ¬ ((belowD 12 s).1 : Int) < 3:=by omega
    have z3 : ¬ ((belowD 12 s).1 : Int) < 6:=by omega
    have z4 : ((belowD 12 s).1 : Int) = 6:=by omega
    go_enter Try.func99, Try.ntmps99
    go_wp2_with fail
    refine (HB.out _ HS.out.cur).mono ?_;rintro e w1 ⟨rfl,hw1⟩;have hRC1:=HS.out.go hw1;clear hw1;have HR1:=Lib.hid hRC1;clear hRC1;go_wp2_with fail
    refine (HI1.out _ HR1.out.cur).mono ?_;rintro e w2 ⟨A2,c2,rfl,hk2,hw2⟩;have hsz1:=HR1.out.lt;have hsz2:=hw2.2.size;have hRC2:=(HR1.out.go hw2).alloc (.cells #[.int .i64 T.1.kind,.int .i64 T.1.num,.string T.1.name,.slice A2 T.1.kids.length c2] 75);have hnew:=heap_alloc_new w2 (.cells #[.int .i64 T.1.kind,.int .i64 T.1.num,.string T.1.name,.slice A2 T.1.kids.length c2] 75);have c0:=hRC2.cell 0 rfl;have c1:=hRC2.cell 1 rfl;have c2':=hRC2.cell 2 rfl;have c3:=hRC2.cell 3 rfl;have f0:=hRC2.free 0;have f1:=hRC2.free 1;have f2:=hRC2.free 2;have f3:=hRC2.free 3;have HR2:=Lib.hid hRC2;have HNEW:=Lib.hid hnew;clear hRC2 hnew;go_wp2_with fail
    have hfin:=(((HR2.out.set 0 (.int .i64 8)).set 1 (.int .i64 0)).set 2 (.string ⟨#[]⟩)).set 3 (.slice (some ⟨w2.heap.size,0,none⟩) 1 1);refine bodyPost_ret (results_cell_row rfl _ _ _ _ _ _ _ rfl hfin.blk Try.underlying75 rfl (by kernel_rfl)) rfl ?_;have hF:=set4_fr (w2.alloc (.cells #[.int .i64 T.1.kind,.int .i64 T.1.num,.string T.1.name,.slice A2 T.1.kids.length c2] 75)) w.heap.size (.int .i64 8) (.int .i64 0) (.string ⟨#[]⟩) (.slice (some ⟨w2.heap.size,0,none⟩) 1 1);rw [HE.out];refine ⟨_,1,rfl,?_,hfin.went⟩;have hs2 : (w2.alloc (.cells #[.int .i64 T.1.kind,.int .i64 T.1.num,.string T.1.name,.slice A2 T.1.kids.length c2] 75)).heap.size = w2.heap.size + 1:=by simp
    have hsz3:=hF.size;refine kids_one ((hF.block _ (by omega) (by omega)).trans HNEW.out) (by omega) (by omega) ?_;refine ((hk2.sub (by omega) (high_mono (lo':=w1.heap.size) (Nat.le_refl _))).fr ((Fr.of_below (below_alloc0 _ _)).trans hF) (by omega) (fun b hb e=>by omega))
   ·
    have HE:=Lib.hid (show termD (d + 1) s = _ from (if_neg h6).trans (if_neg h7));have z2 : ¬ ((belowD 12 s).1 : Int) < 3:=by omega
    have z3 : ¬ ((belowD 12 s).1 : Int) < 6:=by omega
    have z4 : ¬ ((belowD 12 s).1 : Int) = 6:=by omega
    go_enter Try.func99, Try.ntmps99
    go_wp2_with fail
    refine (HB.out _ HS.out.cur).mono ?_;rintro e w1 ⟨rfl,hw1⟩;have hRC1:=HS.out.go hw1;clear hw1;have hsz1:=hRC1.lt;have hgw:=hRC1.hg;have hP:=fun (cs : Array Value) (h : cs.toList = kindL.map iv)=>(show Calls Try.prog 111 #[.pointer (some ⟨g,0,none⟩),.slice (some ⟨w1.heap.size,0,none⟩) 6 6] (w1.alloc (.cells cs 3)) fun e w'=>e = .returned (.int .i64 (pickI kindL (belowD 12 s).2).1) ∧ Went (w1.alloc (.cells cs 3)) g (pickI kindL (belowD 12 s).2).2 w' from
     l01PickInt_any kindL _ 6 g _ _ (hRC1.alloc _).cur (lit_rd w1 cs 3 _ h) (fun ad e=>by injection e with e;subst e;simp only;omega) (by simp [kindL]) (by simp [kindL]))
    have HP:=Lib.hid hP;have HR1:=Lib.hid hRC1;clear hP hRC1;generalize pickI kindL (belowD 12 s).2 = kd at HP HE;have HI1:=Lib.hid (fun W (h : CurAt W g kd.2)=>HI.out g kd.2 W h);have HI2:=Lib.hid (fun W (h : CurAt W g (termD d kd.2).2)=>HI.out g (termD d kd.2).2 W h);clear HI;generalize termD d kd.2 = T at HI1 HI2 HE;generalize termD d T.2 = U at HI2 HE;go_wp2_with fail
    refine (HP.out _ rfl).mono ?_;rintro e w2 ⟨rfl,hw2⟩;have hRC2:=(HR1.out.alloc _).go hw2;have hsz2:=hw2.2.size;have hs1a : ∀ o : Obj,(w1.alloc o).heap.size = w1.heap.size + 1:=fun o=>by simp
    rw [hs1a] at hsz2;have HR2:=Lib.hid hRC2;clear hRC2 hw2 hs1a;go_wp2_with fail
    refine (HI1.out _ HR2.out.cur).mono ?_;rintro e w3 ⟨A3,c3,rfl,hk3,hw3⟩;have HR3:=Lib.hid (HR2.out.go hw3);have hsz3:=hw3.2.size;clear hw3;go_wp2_with fail
    refine (HI2.out _ HR3.out.cur).mono ?_;rintro e w4 ⟨A4,c4,rfl,hk4,hw4⟩;have hsz4:=hw4.2.size;have hk3':=hk3.fr hw4.2 (Nat.le_refl _) (fun b hb e=>by omega);have hRC4:=(HR3.out.go hw4).alloc (.cells #[.int .i64 T.1.kind,.int .i64 T.1.num,.string T.1.name,.slice A3 T.1.kids.length c3,.int .i64 U.1.kind,.int .i64 U.1.num,.string U.1.name,.slice A4 U.1.kids.length c4] 75);have hnew:=heap_alloc_new w4 (.cells #[.int .i64 T.1.kind,.int .i64 T.1.num,.string T.1.name,.slice A3 T.1.kids.length c3,.int .i64 U.1.kind,.int .i64 U.1.num,.string U.1.name,.slice A4 U.1.kids.length c4] 75);have c0:=hRC4.cell 0 rfl;have c1:=hRC4.cell 1 rfl;have c2':=hRC4.cell 2 rfl;have c3':=hRC4.cell 3 rfl;have f0:=hRC4.free 0;have f1:=hRC4.free 1;have f2:=hRC4.free 2;have f3:=hRC4.free 3;have HR4:=Lib.hid hRC4;have HNEW:=Lib.hid hnew;clear hRC4 hnew hw4;go_wp2_with fail
    have hfin:=(((HR4.out.set 0 (.int .i64 kd.1)).set 1 (.int .i64 0)).set 2 (.string ⟨#[]⟩)).set 3 (.slice (some ⟨w4.heap.size,0,none⟩) 2 2);refine bodyPost_ret (results_cell_row rfl _ _ _ _ _ _ _ rfl hfin.blk Try.underlying75 rfl (by kernel_rfl)) rfl ?_;have hF:=set4_fr (w4.alloc (.cells #[.int .i64 T.1.kind,.int .i64 T.1.num,.string T.1.name,.slice A3 T.1.kids.length c3,.int .i64 U.1.kind,.int .i64 U.1.num,.string U.1.name,.slice A4 U.1.kids.length c4] 75)) w.heap.size (.int .i64 kd.1) (.int .i64 0) (.string ⟨#[]⟩) (.slice (some ⟨w4.heap.size,0,none⟩) 2 2);rw [HE.out];refine ⟨_,2,rfl,?_,hfin.went⟩;have hs2 : (w4.alloc (.cells #[.int .i64 T.1.kind,.int .i64 T.1.num,.string T.1.name,.slice A3 T.1.kids.length c3,.int .i64 U.1.kind,.int .i64 U.1.num,.string U.1.name,.slice A4 U.1.kids.length c4] 75)).heap.size = w4.heap.size + 1:=by simp
    have hsz5:=hF.size;have hFF:=(Fr.of_below (S:=(· = w.heap.size)) (below_alloc0 w4 (.cells #[.int .i64 T.1.kind,.int .i64 T.1.num,.string T.1.name,.slice A3 T.1.kids.length c3,.int .i64 U.1.kind,.int .i64 U.1.num,.string U.1.name,.slice A4 U.1.kids.length c4] 75))).trans hF;refine kids_two ((hF.block _ (by omega) (by omega)).trans HNEW.out) (by omega) (by omega) ?_ ?_
    · exact (hk3'.sub (by omega) (high_mono (lo':=w2.heap.size) (Nat.le_refl _))).fr hFF (by omega) (fun b hb e=>by omega)
    · exact (hk4.sub (by omega) (high_mono (lo':=w3.heap.size) (Nat.le_refl _))).fr hFF (by omega) (fun b hb e=>by omega)
theorem l03Term_any : ∀ (d : Nat),d ≤ 100 → ∀ (g : Nat) (s : Cr) (w : World),CurAt w g s → Calls Try.prog 99 #[.pointer (some ⟨g,0,none⟩),.int .i64 (d : Int)] w (TmDrawn w g (termD d s)):=by
 intro d;induction d with
 | zero=>intro _ g s w hc;exact l03Term_zero g s w hc
 | succ d ih=>intro hd g s w hc;exact l03Term_succ d (by omega) (ih (by omega)) g s w hc
end Go.Proofs.Ytkgoajnnkimkaaa
