/- Contract of the reference's l08Ins. -/
import Derived.Test.YtkgoajnnkimkaaaGreatA7
set_option linter.unusedSimpArgs false
set_option linter.unusedVariables false
set_option maxRecDepth 100000
set_option maxHeartbeats 16000000
namespace Go.Proofs.YtkgoajnnkimkaaaGreat
open Go.ChangeShapes Go.WideShapes Go.ChangeAt Go.RowKit
def procN (k : Cd) (a : Nat) : Nat:=(procI k a).toNat
def insS (k : Cd) (a : Nat) : Bool:=insBat k a (entryAt k (procN k a)) (endP k (procN k a))
structure Head (k : Cd) : Prop where
 el : 1 ≤ k.entry.length
 nn : ∀ i,i < k.entry.length → 0 ≤ entryAt k i
 z : entryAt k 0 = 0
theorem head_of {k : Cd} (h : headsB k = true) : Head k:=by
 simp only [headsB,Bool.and_eq_true,decide_eq_true_eq] at h;obtain ⟨h1,h2,h3,h4,h5⟩:=h;have hel : 1 ≤ k.entry.length:=by rw [h2];exact names_proc h1
 refine ⟨hel,rise_nonneg h4,?_⟩;have:=List.all_eq_true.1 h4 0 (List.mem_range.2 (by omega));simp only [riseB,if_true,Bool.and_eq_true,decide_eq_true_eq] at this;exact this.1
theorem Head.proc {k : Cd} (h : Head k) (a : Nat) : procI k a = procN k a ∧ procN k a < k.entry.length:=by
 have h1:=procTo_nonneg (k:=k) (a:=a) h.el (by rw [h.z];omega);have h2:=procTo_lt k a k.entry.length;unfold procN procI;omega
theorem l08Ins_bad {B L : Nat} (v : CV) (k : Cd) (a : Nat) (w : World) (hk : CodeAt w B v k) (hcb : CdB L k) (hL : L ≤ 1099511627776) (ha : a < k.ins.length) (h : ¬ (1 ≤ k.ins[a].op ∧ k.ins[a].op ≤ 9)) :
  Calls Tryz.prog 157 #[.agg #[.slice v.gA k.globals.length v.gc, .slice v.lA k.locks.length v.lc, .slice v.pA k.procs.length v.pc, .slice v.eA k.entry.length v.ec, .slice v.iA k.ins.length v.ic],.int .i64 a] w fun r w'=>r = .returned (.bool false) ∧ Below w.heap.size w w':=by
 have hkf:=hk.full;have hil:=hcb.ins;obtain ⟨ai,A2,c2,ei,hbi,m0,m1,m2,m3,m4,m5,m6,mk⟩:=hkf.i.get ha;generalize k.ins[a] = x at *;have e1 : (x.op == 1) = false:=by rw [beq_eq_false_iff_ne];omega
 have e4 : (x.op == 4) = false:=by rw [beq_eq_false_iff_ne];omega
 have e5 : (x.op == 5) = false:=by rw [beq_eq_false_iff_ne];omega
 have e6 : (x.op == 6) = false:=by rw [beq_eq_false_iff_ne];omega
 have e7 : (x.op == 7) = false:=by rw [beq_eq_false_iff_ne];omega
 have HE:=Lib.hid (show (decide (1 ≤ x.op) && decide (x.op ≤ 9)) = false from by simp;omega);clear h;rw [ei];clear ei
 go_enter Tryz.func157, Tryz.ntmps157
 go_wp2_with (go_at_call 92;refine (l01In_any _ _ _ _).mono ?_;rintro e w' ⟨rfl,rfl⟩;rw [HE.out])
 go_ret
 exact ⟨rfl,below_alloc (below_alloc0 _ _) (Nat.le_refl _) _⟩
theorem most_in (x n : Nat) (y : Int) (h : (y : Int) < 0 ∨ (n : Int) ≤ y) : (decide (0 ≤ y) && decide (y ≤ (n : Int) - 1)) = false:=by
 rcases h with h | h
 · rw [decide_eq_false (show ¬ 0 ≤ y from by omega)];rfl
 · rw [decide_eq_false (show ¬ y ≤ (n : Int) - 1 from by omega)];simp
theorem l08Ins_arg {B L : Nat} (v : CV) (k : Cd) (a : Nat) (w : World) (hk : CodeAt w B v k) (hcb : CdB L k) (hL : L ≤ 1099511627776) (ha : a < k.ins.length) (h1 : 1 ≤ k.ins[a].op) (h9 : k.ins[a].op ≤ 9) (h : ¬ (0 ≤ k.ins[a].arg ∧ k.ins[a].arg < argMost k k.ins[a].op)) :
  Calls Tryz.prog 157 #[.agg #[.slice v.gA k.globals.length v.gc, .slice v.lA k.locks.length v.lc, .slice v.pA k.procs.length v.pc, .slice v.eA k.entry.length v.ec, .slice v.iA k.ins.length v.ic],.int .i64 a] w fun r w'=>r = .returned (.bool false) ∧ Below w.heap.size w w':=by
 have hkf:=hk.full;have hil:=hcb.ins;have hgl:=hcb.globals;have hll:=hcb.locks;have hpl:=hcb.procs;obtain ⟨ai,A2,c2,ei,hbi,m0,m1,m2,m3,m4,m5,m6,mk⟩:=hkf.i.get ha;generalize k.ins[a] = x at *;have hcase : x.op = 1 ∨ x.op = 2 ∨ x.op = 3 ∨ x.op = 4 ∨ x.op = 5 ∨ x.op = 6 ∨ x.op = 7 ∨ x.op = 8 ∨ x.op = 9:=by omega
 rw [ei];clear ei h1 h9;have hm : ∀ n : Nat,argMost k x.op = n → Hid ((decide (0 ≤ x.arg) && decide (x.arg ≤ (n : Int) - 1)) = false):=by
  intro n hn;rw [hn] at h;exact most_in 0 n x.arg (by omega)
 rcases hcase with hop | hop | hop | hop | hop | hop | hop | hop | hop
 all_goals
  rw [hop] at m0 hm;have HM:=hm _ rfl;simp only [argMost] at HM;clear hm h hop;first | simp only [Int.reduceEq,if_true] at HM | simp only [Int.reduceEq,if_false,or_self,or_true,true_or,or_false,false_or,if_true] at HM
  try simp only [Int.reduceEq,if_false,or_self,or_true,true_or,or_false,false_or,if_true] at HM
  go_enter Tryz.func157, Tryz.ntmps157
  go_wp2_with fail
  refine (l01In_any _ _ _ _).mono ?_;rintro e w' ⟨rfl,rfl⟩;go_wp2_with fail
  refine (l01In_any _ _ _ _).mono ?_;rintro e w' ⟨rfl,rfl⟩;first | rw [HM.out] | (have HM2 : (decide (0 ≤ x.arg) && decide (x.arg ≤ 0)) = false:=(by have h:=HM.out;rwa [show (((1 : Nat) : Int) - 1) = 0 from rfl] at h);rw [HM2])
  go_wp2_with fail
  go_ret
  exact ⟨rfl,below_alloc (below_alloc0 _ _) (Nat.le_refl _) _⟩
end Go.Proofs.YtkgoajnnkimkaaaGreat
namespace Go.Proofs.YtkgoajnnkimkaaaGreat
open Go.ChangeShapes Go.WideShapes Go.ChangeAt Go.RowKit
theorem l08Ins_zero {B L : Nat} (v : CV) (k : Cd) (a : Nat) (w : World) (hk : CodeAt w B v k) (hcb : CdB L k) (hL : L ≤ 1099511627776) (hd : Head k) (ha : a < k.ins.length) (hop : 4 ≤ k.ins[a].op) (hop9 : k.ins[a].op ≤ 9) (h1 : 0 ≤ k.ins[a].arg) (h2 : k.ins[a].arg < argMost k k.ins[a].op) :
  Calls Tryz.prog 157 #[.agg #[.slice v.gA k.globals.length v.gc, .slice v.lA k.locks.length v.lc, .slice v.pA k.procs.length v.pc, .slice v.eA k.entry.length v.ec, .slice v.iA k.ins.length v.ic],.int .i64 a] w fun r w'=>r = .returned (.bool (insS k a)) ∧ Below w.heap.size w w':=by
 have hkf:=hk.full;have hil:=hcb.ins;have hgl:=hcb.globals;have hll:=hcb.locks;have hpl:=hcb.procs;have hel:=hcb.entry;have hxb:=hcb.insB _ (List.getElem_mem ha);obtain ⟨hpq,hql⟩:=hd.proc a;have fin : ∀ (y : Bool) w',y = insS k a → Below w.heap.size w w' → Ending.returned (.bool y) = .returned (.bool (insS k a)) ∧ Below w.heap.size w w':=fun y w' h1 h2=>⟨by rw [h1],h2⟩
 have HN:=Lib.hid (show insS k a = insB k k.ins[a] (entryAt k (procN k a)) (endP k (procN k a)) from by rw [insS,insBat,List.getElem?_eq_getElem ha]);obtain ⟨ai,A2,c2,ei,hbi,m0,m1,m2,m3,m4,m5,m6,mk⟩:=hkf.i.get ha;generalize k.ins[a] = x at *;obtain ⟨f1,f2,f3,f4⟩:=hxb.term.fits;have HEI:=Lib.hid ei;have HXB:=Lib.hid hxb;have HCB:=Lib.hid hcb;have HD:=Lib.hid hd;have HPQ:=Lib.hid hpq;clear hxb hcb hk hd hpq;have hm : ∀ n : Nat,argMost k x.op = n → Hid ((decide (0 ≤ x.arg) && decide (x.arg ≤ (n : Int) - 1)) = true):=by
  intro n hn;rw [hn] at h2;exact Bool.and_eq_true_iff.2 ⟨decide_eq_true h1,decide_eq_true (by omega)⟩
 have H19:=Lib.hid (show (decide (1 ≤ x.op) && decide (x.op ≤ 9)) = true from Bool.and_eq_true_iff.2 ⟨decide_eq_true (by omega),decide_eq_true (by omega)⟩);have HZ:=Lib.hid (sameTerm_zero x.term A2 c2);have HN2:=Lib.hid (show insS k a = (zeroB x.term && decide (x.to = 0)) from by
  rw [HN.out,insB,if_neg (by omega),if_neg (by omega),decide_eq_true (by omega),decide_eq_true (by omega),decide_eq_true h1,decide_eq_true h2];simp)
 clear HN;generalize zeroB x.term = z at HN2 HZ;have hcase : x.op = 4 ∨ x.op = 5 ∨ x.op = 6 ∨ x.op = 7 ∨ x.op = 8 ∨ x.op = 9:=by omega
 clear hop hop9 h1 h2;rcases hcase with hop | hop | hop | hop | hop | hop
 all_goals
  rw [hop] at hm;have HM:=hm _ rfl;simp only [argMost] at HM;clear hm;first | simp only [Int.reduceEq,if_true] at HM | simp only [Int.reduceEq,if_false,or_self,or_true,true_or,or_false,false_or,if_true] at HM
  try simp only [Int.reduceEq,if_false,or_self,or_true,true_or,or_false,false_or,if_true] at HM
  first | (have e4 : (x.op == 4) = true:=by rw [hop];rfl) | (have e4 : (x.op == 4) = false:=by rw [hop];rfl)
  first | (have e5 : (x.op == 5) = true:=by rw [hop];rfl) | (have e5 : (x.op == 5) = false:=by rw [hop];rfl)
  first | (have e6 : (x.op == 6) = true:=by rw [hop];rfl) | (have e6 : (x.op == 6) = false:=by rw [hop];rfl)
  first | (have e7 : (x.op == 7) = true:=by rw [hop];rfl) | (have e7 : (x.op == 7) = false:=by rw [hop];rfl)
  have e1 : (x.op == 1) = false:=by rw [hop];rfl
  have e2 : (x.op == 2) = false:=by rw [hop];rfl
  have g2 : (x.op != 2) = true:=by rw [hop];rfl
  have g3 : (x.op != 3) = true:=by rw [hop];rfl
  rw [ei];clear ei hop
  go_enter Tryz.func157, Tryz.ntmps157
  go_wp2_with fail
  refine (l01In_any _ _ _ _).mono ?_;rintro e w' ⟨rfl,rfl⟩;rw [H19.out];go_wp2_with fail
  refine (l01In_any _ _ _ _).mono ?_;rintro e w' ⟨rfl,rfl⟩;first | rw [HM.out] | (have HM2 : (decide (0 ≤ x.arg) && decide (x.arg ≤ 0)) = true:=(by have h:=HM.out;rwa [show (((1 : Nat) : Int) - 1) = 0 from rfl] at h);rw [HM2])
  go_wp2_with fail
  rw [← HEI.out];have hbx:=codeBox w v k;have hix:=insCells (w.alloc (.cells #[.slice v.gA k.globals.length v.gc, .slice v.lA k.locks.length v.lc, .slice v.pA k.procs.length v.pc, .slice v.eA k.entry.length v.ec, .slice v.iA k.ins.length v.ic] 28)) x A2 c2 (w.heap.size + 1) (by simp);have hbx:=hbx.to (below_alloc0 _ (.cells #[.int .i64 x.op,.int .i64 x.arg,.int .i64 x.term.kind,.int .i64 x.term.num,.string x.term.name,.slice A2 x.term.kids.length c2,.int .i64 x.to] 52));generalize (w.alloc (.cells #[.slice v.gA k.globals.length v.gc, .slice v.lA k.locks.length v.lc, .slice v.pA k.procs.length v.pc, .slice v.eA k.entry.length v.ec, .slice v.iA k.ins.length v.ic] 28)).alloc (.cells #[.int .i64 x.op,.int .i64 x.arg,.int .i64 x.term.kind,.int .i64 x.term.num,.string x.term.name,.slice A2 x.term.kids.length c2,.int .i64 x.to] 52) = W at hbx hix ⊢;obtain ⟨hb0,hs0,b0,b1,b2,b3,b4⟩:=id hbx;obtain ⟨hs1,j0,j1,j2,j3,j4,j5,j6⟩:=id hix;refine (HZ.out _ (by omega)).mono ?_;rintro r w2 ⟨rfl,hb2⟩;have k0:=cell_below hb2 j0;have k6:=cell_below hb2 j6;cases z
  ·
   go_wp2_with fail
   go_ret
   exact fin _ _ (by rw [HN2.out];rfl) (below_trans' hb0 hb2)
  ·
   go_wp2_with fail
   go_ret
   refine fin _ _ ?_ (below_trans' hb0 hb2);rw [HN2.out,Bool.eq_iff_iff];simp
end Go.Proofs.YtkgoajnnkimkaaaGreat
namespace Go.Proofs.YtkgoajnnkimkaaaGreat
open Go.ChangeShapes Go.WideShapes Go.ChangeAt Go.RowKit
theorem l08Ins_jump {B L : Nat} (v : CV) (k : Cd) (a : Nat) (w : World) (hk : CodeAt w B v k) (hcb : CdB L k) (hL : L ≤ 1099511627776) (hd : Head k) (ha : a < k.ins.length) (hop : k.ins[a].op = 3) (h1 : 0 ≤ k.ins[a].arg) (h2 : k.ins[a].arg < argMost k k.ins[a].op) :
  Calls Tryz.prog 157 #[.agg #[.slice v.gA k.globals.length v.gc, .slice v.lA k.locks.length v.lc, .slice v.pA k.procs.length v.pc, .slice v.eA k.entry.length v.ec, .slice v.iA k.ins.length v.ic],.int .i64 a] w fun r w'=>r = .returned (.bool (insS k a)) ∧ Below w.heap.size w w':=by
 have hkf:=hk.full;have hil:=hcb.ins;have hgl:=hcb.globals;have hll:=hcb.locks;have hpl:=hcb.procs;have hel:=hcb.entry;have hxb:=hcb.insB _ (List.getElem_mem ha);obtain ⟨hpq,hql⟩:=hd.proc a;have fin : ∀ (y : Bool) w',y = insS k a → Below w.heap.size w w' → Ending.returned (.bool y) = .returned (.bool (insS k a)) ∧ Below w.heap.size w w':=fun y w' h1 h2=>⟨by rw [h1],h2⟩
 have HN:=Lib.hid (show insS k a = insB k k.ins[a] (entryAt k (procN k a)) (endP k (procN k a)) from by rw [insS,insBat,List.getElem?_eq_getElem ha]);obtain ⟨ai,A2,c2,ei,hbi,m0,m1,m2,m3,m4,m5,m6,mk⟩:=hkf.i.get ha;generalize k.ins[a] = x at *;obtain ⟨f1,f2,f3,f4⟩:=hxb.term.fits;have HEI:=Lib.hid ei;have HXB:=Lib.hid hxb;have HCB:=Lib.hid hcb;have HD:=Lib.hid hd;have HPQ:=Lib.hid hpq;clear hxb hcb hk hd hpq;have hm : ∀ n : Nat,argMost k x.op = n → Hid ((decide (0 ≤ x.arg) && decide (x.arg ≤ (n : Int) - 1)) = true):=by
  intro n hn;rw [hn] at h2;exact Bool.and_eq_true_iff.2 ⟨decide_eq_true h1,decide_eq_true (by omega)⟩
 have H19:=Lib.hid (show (decide (1 ≤ x.op) && decide (x.op ≤ 9)) = true from Bool.and_eq_true_iff.2 ⟨decide_eq_true (by omega),decide_eq_true (by omega)⟩);have HZ:=Lib.hid (sameTerm_zero x.term A2 c2);have HN1:=Lib.hid (show insS k a = (zeroB x.term && (decide (entryAt k (procN k a) ≤ x.to) && decide (x.to < endP k (procN k a)))) from by
  rw [HN.out,insB,if_neg (by omega),if_pos (by omega),decide_eq_true (by omega),decide_eq_true (by omega),decide_eq_true h1,decide_eq_true h2];simp)
 clear HN;generalize zeroB x.term = z at HN1 HZ;clear h1 h2;have hone : True:=trivial
 all_goals
  rw [hop] at hm;have HM:=hm _ rfl;simp only [argMost] at HM;clear hm;first | simp only [Int.reduceEq,if_true] at HM | simp only [Int.reduceEq,if_false,or_self,or_true,true_or,or_false,false_or,if_true] at HM
  try simp only [Int.reduceEq,if_false,or_self,or_true,true_or,or_false,false_or,if_true] at HM
  have e4 : (x.op == 4) = false:=by rw [hop];rfl
  have e5 : (x.op == 5) = false:=by rw [hop];rfl
  have e6 : (x.op == 6) = false:=by rw [hop];rfl
  have e7 : (x.op == 7) = false:=by rw [hop];rfl
  have e1 : (x.op == 1) = false:=by rw [hop];rfl
  have e2 : (x.op == 2) = false:=by rw [hop];rfl
  have g2 : (x.op != 2) = true:=by rw [hop];rfl
  have g3 : (x.op != 3) = false:=by rw [hop];rfl
  rw [ei];clear ei hop
  go_enter Tryz.func157, Tryz.ntmps157
  go_wp2_with fail
  refine (l01In_any _ _ _ _).mono ?_;rintro e w' ⟨rfl,rfl⟩;rw [H19.out];go_wp2_with fail
  refine (l01In_any _ _ _ _).mono ?_;rintro e w' ⟨rfl,rfl⟩;first | rw [HM.out] | (have HM2 : (decide (0 ≤ x.arg) && decide (x.arg ≤ 0)) = true:=(by have h:=HM.out;rwa [show (((1 : Nat) : Int) - 1) = 0 from rfl] at h);rw [HM2])
  go_wp2_with fail
  rw [← HEI.out];have hbx:=codeBox w v k;have hix:=insCells (w.alloc (.cells #[.slice v.gA k.globals.length v.gc, .slice v.lA k.locks.length v.lc, .slice v.pA k.procs.length v.pc, .slice v.eA k.entry.length v.ec, .slice v.iA k.ins.length v.ic] 28)) x A2 c2 (w.heap.size + 1) (by simp);have hbx:=hbx.to (below_alloc0 _ (.cells #[.int .i64 x.op,.int .i64 x.arg,.int .i64 x.term.kind,.int .i64 x.term.num,.string x.term.name,.slice A2 x.term.kids.length c2,.int .i64 x.to] 52));generalize (w.alloc (.cells #[.slice v.gA k.globals.length v.gc, .slice v.lA k.locks.length v.lc, .slice v.pA k.procs.length v.pc, .slice v.eA k.entry.length v.ec, .slice v.iA k.ins.length v.ic] 28)).alloc (.cells #[.int .i64 x.op,.int .i64 x.arg,.int .i64 x.term.kind,.int .i64 x.term.num,.string x.term.name,.slice A2 x.term.kids.length c2,.int .i64 x.to] 52) = W at hbx hix ⊢;obtain ⟨hb0,hs0,b0,b1,b2,b3,b4⟩:=id hbx;obtain ⟨hs1,j0,j1,j2,j3,j4,j5,j6⟩:=id hix;refine (HZ.out _ (by omega)).mono ?_;rintro r w2 ⟨rfl,hb2⟩;have hb02:=below_trans' hb0 hb2;have hbx2:=hbx.to hb2;have hix2:=hix.to hb2;have k0:=cell_below hb2 j0;cases z
  ·
   go_wp2_with fail
   go_ret
   exact fin _ _ (by rw [HN1.out];rfl) hb02
  ·
   have HN2:=Lib.hid (show insS k a = (decide (entryAt k (procN k a) ≤ x.to) && decide (x.to < endP k (procN k a))) from by rw [HN1.out];simp);clear HN1;have hkT:=hkf.below hb02;obtain ⟨hbT,hsT,u0,u1,u2,u3,u4⟩:=id hbx2;obtain ⟨hsT1,i0,i1,i2,i3,i4,i5,i6⟩:=id hix2;go_wp2_with fail
   refine (l08Proc_any v k a _ hkT (by omega) (by omega)).mono ?_;rintro r W3 ⟨rfl,hbp⟩;rw [HPQ.out];have hb3:=below_trans' hb02 hbp;have hbx3:=CodeBox.to hbx2 hbp;have hix3:=InsCells.to hix2 hbp;obtain ⟨_,hsV,v0,v1,v2,v3,v4⟩:=id hbx3;obtain ⟨hsV1,y0,y1,y2,y3,y4,y5,y6⟩:=id hix3;have hk3:=hkf.below hb3;obtain ⟨ae,ee,hbe,hce⟩:=hk3.e.int hql;rw [← entryAt_eq k _ hql] at hce;have hbe' : (ae.add (procN k a)).block < W3.heap.size:=by rw [block_of_add];omega
   have HPE:=fun W (h : CodeAt W w.heap.size v k)=>l08End_any v k (procN k a) W h HCB.out hL (by omega) (fun hh=>HD.out.nn _ hh);rw [ee] at HPE v3 ⊢;clear ee;have HPE:=Lib.hid HPE;generalize procN k a = q at *;generalize entryAt k q = E at *;generalize endP k q = F at *;have z1 : (0 : Int) ≤ (q : Int):=by omega
   have z2 : (q : Int) < (k.entry.length : Int):=by omega
   go_wp2_with fail
   go_region_held3 (fun w' => Below W3.heap.size W3 w' ∧ CodeAt w' w.heap.size v k ∧ w'.cell? ⟨w.heap.size, 0, none⟩ = some (.slice v.gA k.globals.length v.gc) ∧ w'.cell? ⟨w.heap.size, 1, none⟩ = some (.slice v.lA k.locks.length v.lc) ∧
     w'.cell? ⟨w.heap.size,2,none⟩ = some (.slice v.pA k.procs.length v.pc) ∧ w'.cell? ⟨w.heap.size,3,none⟩ = some (.slice (some ae) k.entry.length v.ec) ∧ w'.cell? ⟨w.heap.size,4,none⟩ = some (.slice v.iA k.ins.length v.ic) ∧
     w'.cell? ⟨w.heap.size + 1,6,none⟩ = some (.int .i64 x.to) ∧ w'.cell? (ae.add q) = some (.int .i64 E))
    (first | exact ⟨(Below.refl _ _).drew,hk3.below ((Below.refl _ _).drew),v0,v1,v2,v3,v4,y6,hce⟩ | assumption | (go_split_ands;refine ⟨below_trans' (by assumption) hb1,CodeAt.below (by assumption) (hb1.mono (by have:=Below.size (by assumption : Below W3.heap.size W3 _);omega)),?_,?_,?_,?_,?_,?_,?_⟩ <;> exact cell_below hb1 (by assumption)))
    (first | (go_at_call 93;go_split_ands;refine (HPE.out _ (by assumption)).mono ?_;rintro e w1 ⟨rfl,hb1⟩) | (go_at_call 92;refine (l01In_any _ _ _ _).mono ?_;rintro e w1 ⟨rfl,rfl⟩))
   rename_i W4 _ hS;have hbS:=hS.1;clear hS;go_wp2_with fail
   go_ret
   refine fin _ _ ?_ (below_trans' hb3 hbS);rw [HN2.out];congr 1
   rw [Bool.eq_iff_iff,decide_eq_true_eq,decide_eq_true_eq];omega
end Go.Proofs.YtkgoajnnkimkaaaGreat
