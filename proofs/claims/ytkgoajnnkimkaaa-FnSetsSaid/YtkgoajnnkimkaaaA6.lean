/- Code handed over by value: its five cells in a new block. Contracts of small functions over code, of the program. -/
import Derived.Test.YtkgoajnnkimkaaaA5
import Derived.Deep.RegionHeld3
set_option linter.unusedSimpArgs false
set_option linter.unusedVariables false
set_option maxRecDepth 100000
set_option maxHeartbeats 16000000
namespace Go.Proofs.Ytkgoajnnkimkaaa
open Go.ChangeShapes Go.WideShapes Go.ChangeAt Go.RowKit

/-- Code laid into the new block that w would make next. -/
def CodeBox (w : World) (v : CV) (k : Cd) (W : World) : Prop :=
  Below w.heap.size w W ∧ w.heap.size < W.heap.size ∧ W.cell? ⟨w.heap.size, 0, none⟩ = some (.slice v.gA k.globals.length v.gc) ∧ W.cell? ⟨w.heap.size, 1, none⟩ = some (.slice v.lA k.locks.length v.lc) ∧
    W.cell? ⟨w.heap.size,2,none⟩ = some (.slice v.pA k.procs.length v.pc) ∧ W.cell? ⟨w.heap.size,3,none⟩ = some (.slice v.eA k.entry.length v.ec) ∧ W.cell? ⟨w.heap.size,4,none⟩ = some (.slice v.iA k.ins.length v.ic)
theorem codeBox (w : World) (v : CV) (k : Cd) : CodeBox w v k (w.alloc (.cells #[.slice v.gA k.globals.length v.gc, .slice v.lA k.locks.length v.lc, .slice v.pA k.procs.length v.pc, .slice v.eA k.entry.length v.ec, .slice v.iA k.ins.length v.ic] 45)) :=
  ⟨below_alloc0 _ _,alloc_size _ _,box_cell _ _ _ 0 rfl,box_cell _ _ _ 1 rfl,box_cell _ _ _ 2 rfl,box_cell _ _ _ 3 rfl,box_cell _ _ _ 4 rfl⟩
theorem CodeBox.to {w W W' : World} {v : CV} {k : Cd} (h : CodeBox w v k W) (hb : Below W.heap.size W W') : CodeBox w v k W' := by
  obtain ⟨h0,h1,c0,c1,c2,c3,c4⟩:=h;exact ⟨below_trans' h0 hb,by have:=hb.size;omega,cell_below hb c0,cell_below hb c1,cell_below hb c2,cell_below hb c3,cell_below hb c4⟩

/-- The names are right. -/
def mainS : ByteArray:=⟨#[109,97,105,110]⟩
def namesB (k : Cd) : Bool:=areNamesB k.globals 6 && (areNamesB k.locks 6 && (areNamesB k.procs 8 && (!twiceB k.globals && (!twiceB k.locks && (!twiceB k.procs && decide (mainS ∈ k.procs))))))

theorem namesRight_any {B L : Nat} (v : CV) (k : Cd) (w : World) (hk : CodeAt w B v k) (hb : CdB L k) (hL : L ≤ 1099511627776) :
    Calls Try.prog 45 #[.agg #[.slice v.gA k.globals.length v.gc, .slice v.lA k.locks.length v.lc, .slice v.pA k.procs.length v.pc, .slice v.eA k.entry.length v.ec, .slice v.iA k.ins.length v.ic]] w fun e w'=>e = .returned (.bool (namesB k)) ∧ Below w.heap.size w w':=by
  have hk:=hk.full.below (below_alloc0 w (.cells #[.slice v.gA k.globals.length v.gc, .slice v.lA k.locks.length v.lc, .slice v.pA k.procs.length v.pc, .slice v.eA k.entry.length v.ec, .slice v.iA k.ins.length v.ic] 45));have hgS : ∀ s ∈ k.globals,s.size ≤ 1099511627776:=fun s hs=>by have:=hb.globalsS s hs;omega
  have hlS : ∀ s ∈ k.locks,s.size ≤ 1099511627776:=fun s hs=>by have:=hb.locksS s hs;omega
  have hpS : ∀ s ∈ k.procs,s.size ≤ 1099511627776:=fun s hs=>by have:=hb.procsS s hs;omega
  have n1:=hb.globals;have n2:=hb.locks;have n3:=hb.procs;have i1:=hk.gl;have i2:=hk.ll;have i3:=hk.pl;have HG:=Lib.hid (fun W (h : Rd W w.heap.size v.gA (k.globals.map sv))=>areNames_any v.gA v.gc k.globals 6 W h (by omega) (by omega) hgS);have HLk:=Lib.hid (fun W (h : Rd W w.heap.size v.lA (k.locks.map sv))=>areNames_any v.lA v.lc k.locks 6 W h (by omega) (by omega) hlS);have HP:=Lib.hid (fun W (h : Rd W w.heap.size v.pA (k.procs.map sv))=>areNames_any v.pA v.pc k.procs 8 W h (by omega) (by omega) hpS);have HG2:=Lib.hid (fun W (h : Rd W w.heap.size v.gA (k.globals.map sv))=>hasTwice_any v.gA v.gc k.globals W h (by omega) i1);have HL2:=Lib.hid (fun W (h : Rd W w.heap.size v.lA (k.locks.map sv))=>hasTwice_any v.lA v.lc k.locks W h (by omega) i2);have HP2:=Lib.hid (fun W (h : Rd W w.heap.size v.pA (k.procs.map sv))=>hasTwice_any v.pA v.pc k.procs W h (by omega) i3);have HP3:=Lib.hid (fun W (h : Rd W w.heap.size v.pA (k.procs.map sv))=>sContains_any v.pA v.pc k.procs mainS W h (by omega));have hg:=hk.g;have hl:=hk.l;have hp:=hk.p;have HN:=Lib.hid (show namesB k = (areNamesB k.globals 6 && (areNamesB k.locks 6 && (areNamesB k.procs 8 && (!twiceB k.globals && (!twiceB k.locks && (!twiceB k.procs && decide (mainS ∈ k.procs))))))) from rfl);clear hgS hlS hpS hb;generalize areNamesB k.globals 6 = x1 at HN HG;generalize areNamesB k.locks 6 = x2 at HN HLk;generalize areNamesB k.procs 8 = x3 at HN HP;generalize twiceB k.globals = x4 at HN HG2;generalize twiceB k.locks = x5 at HN HL2;generalize twiceB k.procs = x6 at HN HP2;generalize decide (mainS ∈ k.procs) = x7 at HN HP3;have fin : ∀ y w',y = namesB k → Below w.heap.size w w' → Ending.returned (.bool y) = .returned (.bool (namesB k)) ∧ Below w.heap.size w w':=fun y w' h1 h2=>⟨by rw [h1],h2⟩
  go_enter Try.func45, Try.ntmps45
  go_wp2_with fail
  refine (HG.out _ hg).mono ?_;rintro e w' ⟨rfl,rfl⟩;cases x1
  · go_wp2_with fail
    go_ret
    exact fin _ _ HN.out.symm (below_alloc0 _ _)
  go_wp2_with fail
  refine (HLk.out _ hl).mono ?_;rintro e w' ⟨rfl,rfl⟩;cases x2
  · go_wp2_with fail
    go_ret
    exact fin _ _ HN.out.symm (below_alloc0 _ _)
  go_wp2_with fail
  refine (HP.out _ hp).mono ?_;rintro e w' ⟨rfl,rfl⟩;cases x3
  · go_wp2_with fail
    go_ret
    exact fin _ _ HN.out.symm (below_alloc0 _ _)
  go_wp2_with fail
  refine (HG2.out _ hg).mono ?_;rintro e w' ⟨rfl,rfl⟩;cases x4
  case true =>
    go_wp2_with fail
    go_ret
    exact fin _ _ HN.out.symm (below_alloc0 _ _)
  go_wp2_with fail
  refine (HL2.out _ hl).mono ?_;rintro e w' ⟨rfl,rfl⟩;cases x5
  case true =>
    go_wp2_with fail
    go_ret
    exact fin _ _ HN.out.symm (below_alloc0 _ _)
  go_wp2_with fail
  refine (HP2.out _ hp).mono ?_;rintro e w' ⟨rfl,rfl⟩;cases x6
  case true =>
    go_wp2_with fail
    go_ret
    exact fin _ _ HN.out.symm (below_alloc0 _ _)
  go_wp2_with fail
  refine (HP3.out _ hp).mono ?_;rintro e w' ⟨rfl,rfl⟩;go_wp2_with fail
  go_ret
  exact fin _ _ HN.out.symm (below_alloc0 _ _)
end Go.Proofs.Ytkgoajnnkimkaaa
/- Contracts of argMost, endOfProc, isPlace, insRight. -/
set_option linter.unusedSimpArgs false
set_option linter.unusedVariables false
namespace Go.Proofs.Ytkgoajnnkimkaaa
open Go.ChangeShapes Go.WideShapes Go.ChangeAt Go.RowKit

/-- How many things the Arg of an Op may be one of. -/
def argMost (k : Cd) (op : Int) : Nat:=if op = 1 then k.globals.length else if op = 4 ∨ op = 5 then k.procs.length else if op = 6 ∨ op = 7 then k.locks.length else 1
theorem argMost_any (v : CV) (k : Cd) (op : Int) (w : World) :
    Calls Try.prog 55 #[.agg #[.slice v.gA k.globals.length v.gc, .slice v.lA k.locks.length v.lc, .slice v.pA k.procs.length v.pc, .slice v.eA k.entry.length v.ec, .slice v.iA k.ins.length v.ic],.int .i64 op] w fun e w'=>e = .returned (.int .i64 (argMost k op : Int)) ∧ Below w.heap.size w w':=by
  have fin : ∀ (y : Nat) w',y = argMost k op → Below w.heap.size w w' → Ending.returned (.int .i64 (y : Int)) = .returned (.int .i64 (argMost k op : Int)) ∧ Below w.heap.size w w':=fun y w' h1 h2=>⟨by rw [h1],h2⟩
  have hcase : op = 1 ∨ op = 4 ∨ op = 5 ∨ op = 6 ∨ op = 7 ∨ (op ≠ 1 ∧ op ≠ 4 ∧ op ≠ 5 ∧ op ≠ 6 ∧ op ≠ 7):=by omega
  rcases hcase with rfl | rfl | rfl | rfl | rfl | ⟨h1,h4,h5,h6,h7⟩
  case inr.inr.inr.inr.inr =>
    have e1 : (op == 1) = false:=by simpa using h1
    have e4 : (op == 4) = false:=by simpa using h4
    have e5 : (op == 5) = false:=by simpa using h5
    have e6 : (op == 6) = false:=by simpa using h6
    have e7 : (op == 7) = false:=by simpa using h7
    have HA:=Lib.hid (show 1 = argMost k op from by simp [argMost,h1,h4,h5,h6,h7]);clear h1 h4 h5 h6 h7
    go_enter Try.func55, Try.ntmps55
    go_wp2_with fail
    go_ret
    exact fin 1 _ HA.out (below_alloc0 _ _)
  all_goals
    go_enter Try.func55, Try.ntmps55
    go_wp2_with fail
    go_ret
    exact fin _ _ rfl (below_alloc0 _ _)

/-- The place behind the end of a procedure. -/
def endP (k : Cd) (p : Nat) : Int:=if h : p + 1 < k.entry.length then k.entry[p + 1] else k.ins.length
theorem endOfProc_any {B : Nat} (v : CV) (k : Cd) (p : Nat) (w : World) (hk : CodeAt w B v k) (hp : p ≤ 1099511627776) (hl : k.entry.length ≤ 1099511627776) (hi : k.ins.length ≤ 1099511627776) :
    Calls Try.prog 47 #[.agg #[.slice v.gA k.globals.length v.gc, .slice v.lA k.locks.length v.lc, .slice v.pA k.procs.length v.pc, .slice v.eA k.entry.length v.ec, .slice v.iA k.ins.length v.ic],.int .i64 p] w fun e w'=>e = .returned (.int .i64 (endP k p)) ∧ Below w.heap.size w w':=by
  by_cases h : p + 1 < k.entry.length
  · have HE := Lib.hid (show endP k p = k.entry[p + 1] from by rw [endP, dif_pos h])
    obtain ⟨ad,e,hb,hc⟩:=hk.e.full.int h;have hc' : w.cell? ⟨ad.block,ad.off + (p + 1),none⟩ = some (.int .i64 k.entry[p + 1]):=by rw [← hc];rfl
    rw [e];clear e hc
    go_enter Try.func47, Try.ntmps47
    go_wp2_with fail
    go_ret
    exact ⟨ret_int HE.out.symm,below_alloc0 _ _⟩
  · have HE := Lib.hid (show endP k p = k.ins.length from by rw [endP, dif_neg h])
    go_enter Try.func47, Try.ntmps47
    go_wp2_with fail
    go_ret
    exact ⟨ret_int HE.out.symm,below_alloc0 _ _⟩

/-- An instruction of a procedure in b up to e is right. -/
def insB (k : Cd) (x : Is) (b e : Int) : Bool :=
  (decide (1 ≤ x.op) && (decide (x.op ≤ 9) && (decide (0 ≤ x.arg) && decide (x.arg < argMost k x.op)))) &&
  ((if x.op = 1 ∨ x.op = 2 then termOk 6 x.term && (readsOf x.term).all (fun s=>decide (s ∈ k.globals)) else zeroB x.term) &&
   (if x.op = 2 ∨ x.op = 3 then decide (b ≤ x.to) && decide (x.to < e) else decide (x.to = 0)))

/-- An instruction in block g. -/
def InsCells (W : World) (g : Nat) (x : Is) (A : Option Addr) (c : Nat) : Prop :=
  g < W.heap.size ∧ W.cell? ⟨g, 0, none⟩ = some (.int .i64 x.op) ∧ W.cell? ⟨g, 1, none⟩ = some (.int .i64 x.arg) ∧ W.cell? ⟨g, 2, none⟩ = some (.int .i64 x.term.kind) ∧ W.cell? ⟨g, 3, none⟩ = some (.int .i64 x.term.num) ∧
    W.cell? ⟨g,4,none⟩ = some (.string x.term.name) ∧ W.cell? ⟨g,5,none⟩ = some (.slice A x.term.kids.length c) ∧ W.cell? ⟨g,6,none⟩ = some (.int .i64 x.to)
theorem insCells (w : World) (x : Is) (A : Option Addr) (c : Nat) (g : Nat) (hg : g = w.heap.size) : InsCells (w.alloc (.cells #[.int .i64 x.op, .int .i64 x.arg, .int .i64 x.term.kind, .int .i64 x.term.num, .string x.term.name, .slice A x.term.kids.length c, .int .i64 x.to] 77)) g x A c := by
  subst hg;exact ⟨alloc_size _ _,box_cell _ _ _ 0 rfl,box_cell _ _ _ 1 rfl,box_cell _ _ _ 2 rfl,box_cell _ _ _ 3 rfl,box_cell _ _ _ 4 rfl,box_cell _ _ _ 5 rfl,box_cell _ _ _ 6 rfl⟩
theorem InsCells.to {W W' : World} {g : Nat} {x : Is} {A : Option Addr} {c : Nat} (h : InsCells W g x A c) (hb : Below W.heap.size W W') : InsCells W' g x A c := by
  obtain ⟨h1,c0,c1,c2,c3,c4,c5,c6⟩:=h;exact ⟨by have:=hb.size;omega,cell_below hb c0,cell_below hb c1,cell_below hb c2,cell_below hb c3,cell_below hb c4,cell_below hb c5,cell_below hb c6⟩

theorem insRight_no {B L : Nat} (v : CV) (k : Cd) (x : Is) (A : Option Addr) (c : Nat) (b e : Int) (w : World) (h : ¬ (1 ≤ x.op ∧ x.op ≤ 9 ∧ 0 ≤ x.arg)) :
    Calls Try.prog 48 #[.agg #[.slice v.gA k.globals.length v.gc, .slice v.lA k.locks.length v.lc, .slice v.pA k.procs.length v.pc, .slice v.eA k.entry.length v.ec, .slice v.iA k.ins.length v.ic], .agg #[.int .i64 x.op, .int .i64 x.arg, .int .i64 x.term.kind, .int .i64 x.term.num, .string x.term.name, .slice A x.term.kids.length c, .int .i64 x.to], .int .i64 b, .int .i64 e] w
      fun e w'=>e = .returned (.bool false) ∧ Below w.heap.size w w':=by
  have hcase : decide (x.op < 1) = true ∨ (decide (x.op < 1) = false ∧ decide (9 < x.op) = true) ∨ (decide (x.op < 1) = false ∧ decide (9 < x.op) = false ∧ decide (x.arg < 0) = true) := by
    simp only [decide_eq_true_eq,decide_eq_false_iff_not];omega
  clear h;rcases hcase with h1 | ⟨h1,h2⟩ | ⟨h1,h2,h3⟩
  all_goals
    go_enter Try.func48, Try.ntmps48
    go_wp2_with fail
    go_quiet (fail)
    go_wp2_with fail
    go_ret
    exact ⟨rfl,below_drewN (below_alloc (below_alloc0 _ _) (Nat.le_refl _) _) _⟩

theorem insRight_jump {B L : Nat} (v : CV) (k : Cd) (x : Is) (A : Option Addr) (c : Nat) (b e : Int) (w : World) (hx : IsB L x) (hL : L ≤ 1099511627776) (h1 : 3 ≤ x.op) (h2 : x.op ≤ 9) (h3 : 0 ≤ x.arg) :
    Calls Try.prog 48 #[.agg #[.slice v.gA k.globals.length v.gc, .slice v.lA k.locks.length v.lc, .slice v.pA k.procs.length v.pc, .slice v.eA k.entry.length v.ec, .slice v.iA k.ins.length v.ic], .agg #[.int .i64 x.op, .int .i64 x.arg, .int .i64 x.term.kind, .int .i64 x.term.num, .string x.term.name, .slice A x.term.kids.length c, .int .i64 x.to], .int .i64 b, .int .i64 e] w
      fun r w'=>r = .returned (.bool (insB k x b e)) ∧ Below w.heap.size w w':=by
  obtain ⟨gfit1,gfit2,gfit3,gfit4⟩:=hx.term.fits;have q1 : decide (x.op < 1) = false:=by simp;omega
  have q2 : decide (9 < x.op) = false:=by simp;omega
  have q3 : decide (x.arg < 0) = false:=by simp;omega
  have fin : ∀ (y : Bool) w',y = insB k x b e → Below w.heap.size w w' → Ending.returned (.bool y) = .returned (.bool (insB k x b e)) ∧ Below w.heap.size w w':=fun y w' h1 h2=>⟨by rw [h1],h2⟩
  have HN:=Lib.hid (show insB k x b e = ((decide (1 ≤ x.op) && (decide (x.op ≤ 9) && (decide (0 ≤ x.arg) && decide (x.arg < argMost k x.op)))) && ((if x.op = 1 ∨ x.op = 2 then termOk 6 x.term && (readsOf x.term).all (fun s=>decide (s ∈ k.globals)) else zeroB x.term) &&
   (if x.op = 2 ∨ x.op = 3 then decide (b ≤ x.to) && decide (x.to < e) else decide (x.to = 0)))) from rfl)
  have p1 : (x.op == 1) = false:=by rw [beq_eq_false_iff_ne];omega
  have p2 : (x.op == 2) = false:=by rw [beq_eq_false_iff_ne];omega
  have HZ:=Lib.hid (isZeroTerm_any x.term A c);generalize zeroB x.term = z at HN HZ;by_cases ha : x.arg < argMost k x.op
  · have ha' : decide ((argMost k x.op : Int) ≤ x.arg) = false := by simp; omega
    by_cases h3' : x.op = 3
    · have p3 : (x.op == 3) = true := by simp [h3']
      have HN2 := Lib.hid (show insB k x b e = (z && (decide (b ≤ x.to) && decide (x.to < e))) from by
        rw [HN.out,if_neg (by omega),if_pos (by omega),decide_eq_true (by omega),decide_eq_true (by omega),decide_eq_true (by omega),decide_eq_true ha];simp)
      clear HN ha h3'
      go_enter Try.func48, Try.ntmps48
      go_wp2_with fail
      have hbx:=codeBox w v k;have hix:=insCells (w.alloc (.cells #[.slice v.gA k.globals.length v.gc, .slice v.lA k.locks.length v.lc, .slice v.pA k.procs.length v.pc, .slice v.eA k.entry.length v.ec, .slice v.iA k.ins.length v.ic] 45)) x A c (w.heap.size + 1) (by simp);have hbx:=hbx.to (below_alloc0 _ (.cells #[.int .i64 x.op,.int .i64 x.arg,.int .i64 x.term.kind,.int .i64 x.term.num,.string x.term.name,.slice A x.term.kids.length c,.int .i64 x.to] 77));generalize (w.alloc (.cells #[.slice v.gA k.globals.length v.gc, .slice v.lA k.locks.length v.lc, .slice v.pA k.procs.length v.pc, .slice v.eA k.entry.length v.ec, .slice v.iA k.ins.length v.ic] 45)).alloc (.cells #[.int .i64 x.op,.int .i64 x.arg,.int .i64 x.term.kind,.int .i64 x.term.num,.string x.term.name,.slice A x.term.kids.length c,.int .i64 x.to] 77) = W at hbx hix ⊢;have hbx0:=hbx;have hix0:=hix;obtain ⟨hb0,hs0,b0,b1,b2,b3,b4⟩:=hbx;obtain ⟨hs1,j0,j1,j2,j3,j4,j5,j6⟩:=hix
      go_region_held3 (fun w' => Below W.heap.size W w' ∧ w'.cell? ⟨w.heap.size, 0, none⟩ = some (.slice v.gA k.globals.length v.gc) ∧ w'.cell? ⟨w.heap.size, 1, none⟩ = some (.slice v.lA k.locks.length v.lc) ∧
          w'.cell? ⟨w.heap.size,2,none⟩ = some (.slice v.pA k.procs.length v.pc) ∧ w'.cell? ⟨w.heap.size,3,none⟩ = some (.slice v.eA k.entry.length v.ec) ∧ w'.cell? ⟨w.heap.size,4,none⟩ = some (.slice v.iA k.ins.length v.ic) ∧
          w'.cell? ⟨w.heap.size + 1,0,none⟩ = some (.int .i64 x.op) ∧ w'.cell? ⟨w.heap.size + 1,1,none⟩ = some (.int .i64 x.arg))
        (first | exact ⟨below_drewN (Below.refl _ _) 1,b0,b1,b2,b3,b4,j0,j1⟩ | (go_split_ands;refine ⟨below_trans' (by assumption) hb1,?_,?_,?_,?_,?_,?_,?_⟩ <;> exact cell_below hb1 (by assumption)))
        (first | (go_at_call 55;refine (argMost_any v k _ _).mono ?_;rintro e w1 ⟨rfl,hb1⟩))
      rename_i W1 _ hS;clear b0 b1 b2 b3 b4 j0 j1 j2 j3 j4 j5 j6 hs0 hs1;have hbW:=hS.1;clear hS;obtain ⟨hb0',hs0,b0,b1,b2,b3,b4⟩:=hbx0.to hbW;obtain ⟨hs1,j0,j1,j2,j3,j4,j5,j6⟩:=hix0.to hbW;clear hbx0 hix0;go_wp2_with fail
      refine (HZ.out _).mono ?_;rintro r w2 ⟨rfl,hb2⟩;have j6':=cell_below hb2 j6;have j0':=cell_below hb2 j0;cases z
      · go_wp2_with fail
        go_ret
        exact fin _ _ (by rw [HN2.out];rfl) (below_trans' hb0' hb2)
      · go_wp2_with fail
        all_goals go_ret
        all_goals refine fin _ _ ?_ (below_trans' hb0' hb2)
        all_goals rw [HN2.out]
        all_goals simp [*]
        all_goals omega
    · have p3 : (x.op == 3) = false := by simp [h3']
      have HN2 := Lib.hid (show insB k x b e = (z && decide (x.to = 0)) from by
        rw [HN.out,if_neg (by omega),if_neg (by omega),decide_eq_true (by omega),decide_eq_true (by omega),decide_eq_true (by omega),decide_eq_true ha];simp)
      clear HN ha h3'
      go_enter Try.func48, Try.ntmps48
      go_wp2_with fail
      have hbx:=codeBox w v k;have hix:=insCells (w.alloc (.cells #[.slice v.gA k.globals.length v.gc, .slice v.lA k.locks.length v.lc, .slice v.pA k.procs.length v.pc, .slice v.eA k.entry.length v.ec, .slice v.iA k.ins.length v.ic] 45)) x A c (w.heap.size + 1) (by simp);have hbx:=hbx.to (below_alloc0 _ (.cells #[.int .i64 x.op,.int .i64 x.arg,.int .i64 x.term.kind,.int .i64 x.term.num,.string x.term.name,.slice A x.term.kids.length c,.int .i64 x.to] 77));generalize (w.alloc (.cells #[.slice v.gA k.globals.length v.gc, .slice v.lA k.locks.length v.lc, .slice v.pA k.procs.length v.pc, .slice v.eA k.entry.length v.ec, .slice v.iA k.ins.length v.ic] 45)).alloc (.cells #[.int .i64 x.op,.int .i64 x.arg,.int .i64 x.term.kind,.int .i64 x.term.num,.string x.term.name,.slice A x.term.kids.length c,.int .i64 x.to] 77) = W at hbx hix ⊢;have hbx0:=hbx;have hix0:=hix;obtain ⟨hb0,hs0,b0,b1,b2,b3,b4⟩:=hbx;obtain ⟨hs1,j0,j1,j2,j3,j4,j5,j6⟩:=hix
      go_region_held3 (fun w' => Below W.heap.size W w' ∧ w'.cell? ⟨w.heap.size, 0, none⟩ = some (.slice v.gA k.globals.length v.gc) ∧ w'.cell? ⟨w.heap.size, 1, none⟩ = some (.slice v.lA k.locks.length v.lc) ∧
          w'.cell? ⟨w.heap.size,2,none⟩ = some (.slice v.pA k.procs.length v.pc) ∧ w'.cell? ⟨w.heap.size,3,none⟩ = some (.slice v.eA k.entry.length v.ec) ∧ w'.cell? ⟨w.heap.size,4,none⟩ = some (.slice v.iA k.ins.length v.ic) ∧
          w'.cell? ⟨w.heap.size + 1,0,none⟩ = some (.int .i64 x.op) ∧ w'.cell? ⟨w.heap.size + 1,1,none⟩ = some (.int .i64 x.arg))
        (first | exact ⟨below_drewN (Below.refl _ _) 1,b0,b1,b2,b3,b4,j0,j1⟩ | (go_split_ands;refine ⟨below_trans' (by assumption) hb1,?_,?_,?_,?_,?_,?_,?_⟩ <;> exact cell_below hb1 (by assumption)))
        (first | (go_at_call 55;refine (argMost_any v k _ _).mono ?_;rintro e w1 ⟨rfl,hb1⟩))
      rename_i W1 _ hS;clear b0 b1 b2 b3 b4 j0 j1 j2 j3 j4 j5 j6 hs0 hs1;have hbW:=hS.1;clear hS;obtain ⟨hb0',hs0,b0,b1,b2,b3,b4⟩:=hbx0.to hbW;obtain ⟨hs1,j0,j1,j2,j3,j4,j5,j6⟩:=hix0.to hbW;clear hbx0 hix0;go_wp2_with fail
      refine (HZ.out _).mono ?_;rintro r w2 ⟨rfl,hb2⟩;have j6':=cell_below hb2 j6;have j0':=cell_below hb2 j0;cases z
      · go_wp2_with fail
        go_ret
        exact fin _ _ (by rw [HN2.out];rfl) (below_trans' hb0' hb2)
      · go_wp2_with fail
        go_ret
        refine fin _ _ ?_ (below_trans' hb0' hb2);rw [HN2.out,Bool.eq_iff_iff];simp
  · have ha' : decide ((argMost k x.op : Int) ≤ x.arg) = true := by simp; omega
    have HN2:=Lib.hid (show insB k x b e = false from by rw [HN.out,decide_eq_false ha];simp);clear HN ha
    go_enter Try.func48, Try.ntmps48
    go_wp2_with fail
    have hbx:=codeBox w v k;have hix:=insCells (w.alloc (.cells #[.slice v.gA k.globals.length v.gc, .slice v.lA k.locks.length v.lc, .slice v.pA k.procs.length v.pc, .slice v.eA k.entry.length v.ec, .slice v.iA k.ins.length v.ic] 45)) x A c (w.heap.size + 1) (by simp);have hbx:=hbx.to (below_alloc0 _ (.cells #[.int .i64 x.op,.int .i64 x.arg,.int .i64 x.term.kind,.int .i64 x.term.num,.string x.term.name,.slice A x.term.kids.length c,.int .i64 x.to] 77));generalize (w.alloc (.cells #[.slice v.gA k.globals.length v.gc, .slice v.lA k.locks.length v.lc, .slice v.pA k.procs.length v.pc, .slice v.eA k.entry.length v.ec, .slice v.iA k.ins.length v.ic] 45)).alloc (.cells #[.int .i64 x.op,.int .i64 x.arg,.int .i64 x.term.kind,.int .i64 x.term.num,.string x.term.name,.slice A x.term.kids.length c,.int .i64 x.to] 77) = W at hbx hix ⊢;have hbx0:=hbx;have hix0:=hix;obtain ⟨hb0,hs0,b0,b1,b2,b3,b4⟩:=hbx;obtain ⟨hs1,j0,j1,j2,j3,j4,j5,j6⟩:=hix
    go_region_held3 (fun w' => Below W.heap.size W w' ∧ w'.cell? ⟨w.heap.size, 0, none⟩ = some (.slice v.gA k.globals.length v.gc) ∧ w'.cell? ⟨w.heap.size, 1, none⟩ = some (.slice v.lA k.locks.length v.lc) ∧
        w'.cell? ⟨w.heap.size,2,none⟩ = some (.slice v.pA k.procs.length v.pc) ∧ w'.cell? ⟨w.heap.size,3,none⟩ = some (.slice v.eA k.entry.length v.ec) ∧ w'.cell? ⟨w.heap.size,4,none⟩ = some (.slice v.iA k.ins.length v.ic) ∧
        w'.cell? ⟨w.heap.size + 1,0,none⟩ = some (.int .i64 x.op) ∧ w'.cell? ⟨w.heap.size + 1,1,none⟩ = some (.int .i64 x.arg))
      (first | exact ⟨below_drewN (Below.refl _ _) 1,b0,b1,b2,b3,b4,j0,j1⟩ | (go_split_ands;refine ⟨below_trans' (by assumption) hb1,?_,?_,?_,?_,?_,?_,?_⟩ <;> exact cell_below hb1 (by assumption)))
      (first | (go_at_call 55;refine (argMost_any v k _ _).mono ?_;rintro e w1 ⟨rfl,hb1⟩))
    rename_i W1 _ hS;clear b0 b1 b2 b3 b4 j0 j1 j2 j3 j4 j5 j6 hs0 hs1;have hbW:=hS.1;clear hS;obtain ⟨hb0',hs0,b0,b1,b2,b3,b4⟩:=hbx0.to hbW;obtain ⟨hs1,j0,j1,j2,j3,j4,j5,j6⟩:=hix0.to hbW;clear hbx0 hix0;go_wp2_with fail
    go_ret
    exact fin _ _ (by rw [HN2.out]) hb0'
end Go.Proofs.Ytkgoajnnkimkaaa
/- Contract of insRight, whole. -/
set_option linter.unusedSimpArgs false
set_option linter.unusedVariables false
namespace Go.Proofs.Ytkgoajnnkimkaaa
open Go.ChangeShapes Go.WideShapes Go.ChangeAt Go.RowKit

theorem readsF_len6 (t : Tm) : (readsOf t).length ≤ 64 := by
  unfold readsOf;split
  · rename_i h
    have:=readsF_len 6 t [] h;simpa using this
  · simp

theorem insRight_term {B L : Nat} (v : CV) (k : Cd) (x : Is) (A : Option Addr) (c : Nat) (b e : Int) (w : World) (hg : Rd w B v.gA (k.globals.map sv)) (hgl : k.globals.length ≤ 1099511627776) (hkid : KidsAt w B A x.term.kids) (hx : IsB L x) (hL : L ≤ 1099511627776) (h1 : 1 ≤ x.op) (h2 : x.op ≤ 2) (h3 : 0 ≤ x.arg) :
    Calls Try.prog 48 #[.agg #[.slice v.gA k.globals.length v.gc, .slice v.lA k.locks.length v.lc, .slice v.pA k.procs.length v.pc, .slice v.eA k.entry.length v.ec, .slice v.iA k.ins.length v.ic], .agg #[.int .i64 x.op, .int .i64 x.arg, .int .i64 x.term.kind, .int .i64 x.term.num, .string x.term.name, .slice A x.term.kids.length c, .int .i64 x.to], .int .i64 b, .int .i64 e] w
      fun r w'=>r = .returned (.bool (insB k x b e)) ∧ Below w.heap.size w w':=by
  obtain ⟨gfit1,gfit2,gfit3,gfit4⟩:=hx.term.fits;have q1 : decide (x.op < 1) = false:=by simp;omega
  have q2 : decide (9 < x.op) = false:=by simp;omega
  have q3 : decide (x.arg < 0) = false:=by simp;omega
  have fin : ∀ (y : Bool) w',y = insB k x b e → Below w.heap.size w w' → Ending.returned (.bool y) = .returned (.bool (insB k x b e)) ∧ Below w.heap.size w w':=fun y w' h1 h2=>⟨by rw [h1],h2⟩
  have HN:=Lib.hid (show insB k x b e = ((decide (1 ≤ x.op) && (decide (x.op ≤ 9) && (decide (0 ≤ x.arg) && decide (x.arg < argMost k x.op)))) && ((if x.op = 1 ∨ x.op = 2 then termOk 6 x.term && (readsOf x.term).all (fun s=>decide (s ∈ k.globals)) else zeroB x.term) &&
   (if x.op = 2 ∨ x.op = 3 then decide (b ≤ x.to) && decide (x.to < e) else decide (x.to = 0)))) from rfl)
  have hgf:=hg.full;have hkf:=hkid.full;have hrl:=readsF_len6 x.term;have HT:=Lib.hid (fun W (h : KidsAt W w.heap.size A x.term.kids)=>termOk_i x.term A c W h hx.term hL);have HR:=Lib.hid (fun W (h : KidsAt W w.heap.size A x.term.kids)=>readsOf_i x.term A c W h hx.term hL);have HX:=Lib.hid hx;clear hg hkid hx;generalize termOk 6 x.term = z at HN HT;generalize readsOf x.term = rs at HN HR hrl;by_cases ha : x.arg < argMost k x.op
  · have ha' : decide ((argMost k x.op : Int) ≤ x.arg) = false := by simp; omega
    by_cases h2' : x.op = 1
    all_goals
      first
        | (have p1 : (x.op == 1) = true:=by simp [h2'];done)
        | (have p1 : (x.op == 1) = false:=by simp [h2'];done)
      first
        | (have p2 : (x.op == 2) = true:=by rw [beq_iff_eq];omega)
        | (have p2 : (x.op == 2) = false:=by rw [beq_eq_false_iff_ne];omega)
      have p3 : (x.op == 3) = false:=by rw [beq_eq_false_iff_ne];omega
      first
        | (have HN2 := Lib.hid (show insB k x b e = (z && rs.all (fun s => decide (s ∈ k.globals)) && decide (x.to = 0)) from by
            rw [HN.out,if_pos (by omega),if_neg (by omega),decide_eq_true (by omega),decide_eq_true (by omega),decide_eq_true (by omega),decide_eq_true ha];simp))
        | (have HN2 := Lib.hid (show insB k x b e = (z && rs.all (fun s => decide (s ∈ k.globals)) && (decide (b ≤ x.to) && decide (x.to < e))) from by
            rw [HN.out,if_pos (by omega),if_pos (by omega),decide_eq_true (by omega),decide_eq_true (by omega),decide_eq_true (by omega),decide_eq_true ha];simp))
      clear HN ha h2'
      go_enter Try.func48, Try.ntmps48
      go_wp2_with fail
      have hbx:=codeBox w v k;have hix:=insCells (w.alloc (.cells #[.slice v.gA k.globals.length v.gc, .slice v.lA k.locks.length v.lc, .slice v.pA k.procs.length v.pc, .slice v.eA k.entry.length v.ec, .slice v.iA k.ins.length v.ic] 45)) x A c (w.heap.size + 1) (by simp);have hbx:=hbx.to (below_alloc0 _ (.cells #[.int .i64 x.op,.int .i64 x.arg,.int .i64 x.term.kind,.int .i64 x.term.num,.string x.term.name,.slice A x.term.kids.length c,.int .i64 x.to] 77));generalize (w.alloc (.cells #[.slice v.gA k.globals.length v.gc, .slice v.lA k.locks.length v.lc, .slice v.pA k.procs.length v.pc, .slice v.eA k.entry.length v.ec, .slice v.iA k.ins.length v.ic] 45)).alloc (.cells #[.int .i64 x.op,.int .i64 x.arg,.int .i64 x.term.kind,.int .i64 x.term.num,.string x.term.name,.slice A x.term.kids.length c,.int .i64 x.to] 77) = W at hbx hix ⊢;have hbx0:=hbx;have hix0:=hix;obtain ⟨hb0,hs0,b0,b1,b2,b3,b4⟩:=hbx;obtain ⟨hs1,j0,j1,j2,j3,j4,j5,j6⟩:=hix
      go_region_held3 (fun w' => Below W.heap.size W w' ∧ w'.cell? ⟨w.heap.size, 0, none⟩ = some (.slice v.gA k.globals.length v.gc) ∧ w'.cell? ⟨w.heap.size, 1, none⟩ = some (.slice v.lA k.locks.length v.lc) ∧
          w'.cell? ⟨w.heap.size,2,none⟩ = some (.slice v.pA k.procs.length v.pc) ∧ w'.cell? ⟨w.heap.size,3,none⟩ = some (.slice v.eA k.entry.length v.ec) ∧ w'.cell? ⟨w.heap.size,4,none⟩ = some (.slice v.iA k.ins.length v.ic) ∧
          w'.cell? ⟨w.heap.size + 1,0,none⟩ = some (.int .i64 x.op) ∧ w'.cell? ⟨w.heap.size + 1,1,none⟩ = some (.int .i64 x.arg))
        (first | exact ⟨below_drewN (Below.refl _ _) 1,b0,b1,b2,b3,b4,j0,j1⟩ | (go_split_ands;refine ⟨below_trans' (by assumption) hb1,?_,?_,?_,?_,?_,?_,?_⟩ <;> exact cell_below hb1 (by assumption)))
        (first | (go_at_call 55;refine (argMost_any v k _ _).mono ?_;rintro e w1 ⟨rfl,hb1⟩))
      rename_i W1 _ hS;clear b0 b1 b2 b3 b4 j0 j1 j2 j3 j4 j5 j6 hs0 hs1;have hbW:=hS.1;clear hS;obtain ⟨hb0',hs0,b0,b1,b2,b3,b4⟩:=hbx0.to hbW;obtain ⟨hs1,j0,j1,j2,j3,j4,j5,j6⟩:=hix0.to hbW;clear hbx0 hix0;go_wp2_with fail
      refine (HT.out _ (hkf.below hb0')).mono ?_;rintro r w2 ⟨rfl,hb2⟩;have hb02:=below_trans' hb0' hb2;cases z
      · go_wp2_with fail
        go_ret
        exact fin _ _ (by rw [HN2.out];rfl) hb02
      have k0:=cell_below hb2 j0;have k2:=cell_below hb2 j2;have k3:=cell_below hb2 j3;have k4:=cell_below hb2 j4;have k5:=cell_below hb2 j5;have k6:=cell_below hb2 j6;have g0:=cell_below hb2 b0;have hsz2:=hb2.size;have hs02 : w.heap.size < w2.heap.size:=by omega
      have hs12 : w.heap.size + 1 < w2.heap.size:=by omega
      go_wp2_with fail
      refine (HR.out _ (hkf.below hb02)).mono ?_;rintro r w3 ⟨A3,c3,rfl,ho3,hb3⟩;have hb03:=below_trans' hb02 hb3;have m0:=cell_below hb3 k0;have m6:=cell_below hb3 k6;have n0:=cell_below hb3 g0;have hr3:=own_rd ho3;have hg3:=hgf.below hb03;go_wp2_with fail
      go_loop [49] (fun i=>∃ q : Nat,q ≤ rs.length ∧ i = .int .i64 q ∧ (rs.take q).all (fun s=>decide (s ∈ k.globals)) = true) (fun i=>rs.length - (intOf i).toNat)
      case atStart=>exact ⟨0,by omega,rfl,rfl⟩
      case round =>
        obtain ⟨q,hq,rfl,hall⟩:=hrel;have HA:=Lib.hid hall;clear hall;by_cases hlt : q < rs.length
        · obtain ⟨ad, rfl, _, hc⟩ := hr3.str hlt
          have HTK:=Lib.hid (List.take_succ_eq_append_getElem hlt);have HM:=Lib.hid (List.getElem_mem hlt);have HC:=Lib.hid (sContains_any v.gA v.gc k.globals rs[q] w3 hg3 (by omega));cases hd : decide (rs[q] ∈ k.globals)
          · have HD := Lib.hid hd
            clear hd;go_wp2_with fail
            refine HC.out.mono ?_;rintro r w' ⟨rfl,rfl⟩;rw [HD.out];go_wp2_with fail
            go_ret
            have hf : rs.all (fun s=>decide (s ∈ k.globals)) = false:=List.all_eq_false.2 ⟨_,HM.out,by rw [HD.out];simp⟩;exact fin _ _ (by rw [HN2.out,hf];simp) hb03
          · have HD := Lib.hid hd
            clear hd;go_wp2_with fail
            refine HC.out.mono ?_;rintro r w' ⟨rfl,rfl⟩;rw [HD.out];go_wp2_with fail
            go_round
            case rel=>exact ⟨q + 1,by omega,by go_num,by rw [HTK.out,List.all_append,HA.out];simp only [List.all_cons,List.all_nil,HD.out,Bool.and_self]⟩
            case measure=>simp [intOf];omega
        · have hf : rs.all (fun s => decide (s ∈ k.globals)) = true := by have := HA.out; rwa [List.take_of_length_le (by omega)] at this
          have HF:=Lib.hid hf;clear hf;go_wp2_with fail
          all_goals go_ret
          all_goals refine fin _ _ ?_ hb03
          all_goals rw [HN2.out,HF.out]
          all_goals first
            | (simp [*];done)
            | (rw [Bool.eq_iff_iff];simp [*];done)
            | (rw [Bool.eq_iff_iff];simp [*];omega)
            | (rw [Bool.eq_iff_iff];simp only [Bool.true_and,Bool.and_eq_true,decide_eq_true_eq];constructor <;> intro hh <;> first | (cases hh;done) | omega)
  · have ha' : decide ((argMost k x.op : Int) ≤ x.arg) = true := by simp; omega
    have HN2:=Lib.hid (show insB k x b e = false from by rw [HN.out,decide_eq_false ha];simp);clear HN ha
    go_enter Try.func48, Try.ntmps48
    go_wp2_with fail
    have hbx:=codeBox w v k;have hix:=insCells (w.alloc (.cells #[.slice v.gA k.globals.length v.gc, .slice v.lA k.locks.length v.lc, .slice v.pA k.procs.length v.pc, .slice v.eA k.entry.length v.ec, .slice v.iA k.ins.length v.ic] 45)) x A c (w.heap.size + 1) (by simp);have hbx:=hbx.to (below_alloc0 _ (.cells #[.int .i64 x.op,.int .i64 x.arg,.int .i64 x.term.kind,.int .i64 x.term.num,.string x.term.name,.slice A x.term.kids.length c,.int .i64 x.to] 77));generalize (w.alloc (.cells #[.slice v.gA k.globals.length v.gc, .slice v.lA k.locks.length v.lc, .slice v.pA k.procs.length v.pc, .slice v.eA k.entry.length v.ec, .slice v.iA k.ins.length v.ic] 45)).alloc (.cells #[.int .i64 x.op,.int .i64 x.arg,.int .i64 x.term.kind,.int .i64 x.term.num,.string x.term.name,.slice A x.term.kids.length c,.int .i64 x.to] 77) = W at hbx hix ⊢;have hbx0:=hbx;have hix0:=hix;obtain ⟨hb0,hs0,b0,b1,b2,b3,b4⟩:=hbx;obtain ⟨hs1,j0,j1,j2,j3,j4,j5,j6⟩:=hix
    go_region_held3 (fun w' => Below W.heap.size W w' ∧ w'.cell? ⟨w.heap.size, 0, none⟩ = some (.slice v.gA k.globals.length v.gc) ∧ w'.cell? ⟨w.heap.size, 1, none⟩ = some (.slice v.lA k.locks.length v.lc) ∧
        w'.cell? ⟨w.heap.size,2,none⟩ = some (.slice v.pA k.procs.length v.pc) ∧ w'.cell? ⟨w.heap.size,3,none⟩ = some (.slice v.eA k.entry.length v.ec) ∧ w'.cell? ⟨w.heap.size,4,none⟩ = some (.slice v.iA k.ins.length v.ic) ∧
        w'.cell? ⟨w.heap.size + 1,0,none⟩ = some (.int .i64 x.op) ∧ w'.cell? ⟨w.heap.size + 1,1,none⟩ = some (.int .i64 x.arg))
      (first | exact ⟨below_drewN (Below.refl _ _) 1,b0,b1,b2,b3,b4,j0,j1⟩ | (go_split_ands;refine ⟨below_trans' (by assumption) hb1,?_,?_,?_,?_,?_,?_,?_⟩ <;> exact cell_below hb1 (by assumption)))
      (first | (go_at_call 55;refine (argMost_any v k _ _).mono ?_;rintro e w1 ⟨rfl,hb1⟩))
    rename_i W1 _ hS;clear b0 b1 b2 b3 b4 j0 j1 j2 j3 j4 j5 j6 hs0 hs1;have hbW:=hS.1;clear hS;obtain ⟨hb0',hs0,b0,b1,b2,b3,b4⟩:=hbx0.to hbW;obtain ⟨hs1,j0,j1,j2,j3,j4,j5,j6⟩:=hix0.to hbW;clear hbx0 hix0;go_wp2_with fail
    go_ret
    exact fin _ _ (by rw [HN2.out]) hb0'

theorem insRight_any {B L : Nat} (v : CV) (k : Cd) (x : Is) (A : Option Addr) (c : Nat) (b e : Int) (w : World) (hg : Rd w B v.gA (k.globals.map sv)) (hgl : k.globals.length ≤ 1099511627776) (hkid : KidsAt w B A x.term.kids) (hx : IsB L x) (hL : L ≤ 1099511627776) :
    Calls Try.prog 48 #[.agg #[.slice v.gA k.globals.length v.gc, .slice v.lA k.locks.length v.lc, .slice v.pA k.procs.length v.pc, .slice v.eA k.entry.length v.ec, .slice v.iA k.ins.length v.ic], .agg #[.int .i64 x.op, .int .i64 x.arg, .int .i64 x.term.kind, .int .i64 x.term.num, .string x.term.name, .slice A x.term.kids.length c, .int .i64 x.to], .int .i64 b, .int .i64 e] w
      fun r w'=>r = .returned (.bool (insB k x b e)) ∧ Below w.heap.size w w':=by
  by_cases h : 1 ≤ x.op ∧ x.op ≤ 9 ∧ 0 ≤ x.arg
  · obtain ⟨h1, h2, h3⟩ := h
    by_cases h4 : x.op ≤ 2
    · exact insRight_term v k x A c b e w hg hgl hkid hx hL h1 h4 h3
    · exact insRight_jump (B:=B) v k x A c b e w hx hL (by omega) h2 h3
  · refine (insRight_no (B := B) (L := L) v k x A c b e w h).mono fun r w' ⟨hr, hw⟩ => ⟨?_, hw⟩
    have : insB k x b e = false := by
      unfold insB;by_cases h1 : 1 ≤ x.op
      · by_cases h2 : x.op ≤ 9
        · rw [decide_eq_false (show ¬ 0 ≤ x.arg from fun h3=>h ⟨h1,h2,h3⟩)];simp
        · rw [decide_eq_false h2];simp
      · rw [decide_eq_false h1];simp
    rw [hr,this]
end Go.Proofs.Ytkgoajnnkimkaaa
