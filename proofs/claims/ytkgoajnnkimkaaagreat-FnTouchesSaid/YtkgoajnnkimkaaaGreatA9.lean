/- Contract of the reference's l08Ins: instructions with a term; and of CodeOk. -/
import Derived.Test.YtkgoajnnkimkaaaGreatA8
set_option linter.unusedSectionVars false
set_option linter.unusedSimpArgs false
set_option linter.unusedVariables false
set_option maxRecDepth 100000
set_option maxHeartbeats 16000000
namespace Go.Proofs.YtkgoajnnkimkaaaGreat
open Go.ChangeShapes Go.WideShapes Go.ChangeAt Go.RowKit
theorem l08Ins_set {B L : Nat} (v : CV) (k : Cd) (a : Nat) (w : World) (hk : CodeAt w B v k) (hcb : CdB L k) (hL : L ≤ 1099511627776) (hd : Head k) (ha : a < k.ins.length) (hop : k.ins[a].op = 1) (h1 : 0 ≤ k.ins[a].arg) (h2 : k.ins[a].arg < argMost k k.ins[a].op) :
  Calls Tryz.prog 157 #[.agg #[.slice v.gA k.globals.length v.gc, .slice v.lA k.locks.length v.lc, .slice v.pA k.procs.length v.pc, .slice v.eA k.entry.length v.ec, .slice v.iA k.ins.length v.ic],.int .i64 a] w fun r w'=>r = .returned (.bool (insS k a)) ∧ Below w.heap.size w w':=by
 have hkf:=hk.full;have hil:=hcb.ins;have hgl:=hcb.globals;have hll:=hcb.locks;have hpl:=hcb.procs;have hel:=hcb.entry;have hxb:=hcb.insB _ (List.getElem_mem ha);obtain ⟨hpq,hql⟩:=hd.proc a;have fin : ∀ (y : Bool) w',y = insS k a → Below w.heap.size w w' → Ending.returned (.bool y) = .returned (.bool (insS k a)) ∧ Below w.heap.size w w':=fun y w' h1 h2=>⟨by rw [h1],h2⟩
 have HN:=Lib.hid (show insS k a = insB k k.ins[a] (entryAt k (procN k a)) (endP k (procN k a)) from by rw [insS,insBat,List.getElem?_eq_getElem ha]);obtain ⟨ai,A2,c2,ei,hbi,m0,m1,m2,m3,m4,m5,m6,mk⟩:=hkf.i.get ha;generalize k.ins[a] = x at *;obtain ⟨f1,f2,f3,f4⟩:=hxb.term.fits;have HEI:=Lib.hid ei;have HXB:=Lib.hid hxb;have HCB:=Lib.hid hcb;have HD:=Lib.hid hd;have HPQ:=Lib.hid hpq;clear hxb hcb hk hd hpq;have hm : ∀ n : Nat,argMost k x.op = n → Hid ((decide (0 ≤ x.arg) && decide (x.arg ≤ (n : Int) - 1)) = true):=by
  intro n hn;rw [hn] at h2;exact Bool.and_eq_true_iff.2 ⟨decide_eq_true h1,decide_eq_true (by omega)⟩
 have H19:=Lib.hid (show (decide (1 ≤ x.op) && decide (x.op ≤ 9)) = true from Bool.and_eq_true_iff.2 ⟨decide_eq_true (by omega),decide_eq_true (by omega)⟩);have hrl:=readsF_len6 x.term;have HT:=Lib.hid (fun W (h : KidsAt W w.heap.size A2 x.term.kids)=>termOk_s x.term A2 c2 W h HXB.out.term hL);have HR:=Lib.hid (fun W (h : KidsAt W w.heap.size A2 x.term.kids)=>readsOf_s x.term A2 c2 W h HXB.out.term hL);have HN1:=Lib.hid (show insS k a = (termOk 6 x.term && (readsOf x.term).all (fun s=>decide (s ∈ k.globals)) && decide (x.to = 0)) from by
  rw [HN.out,insB,if_pos (by omega),if_neg (by omega),decide_eq_true (by omega),decide_eq_true (by omega),decide_eq_true h1,decide_eq_true h2];simp)
 clear HN;generalize termOk 6 x.term = z at HN1 HT;generalize readsOf x.term = rs at HN1 HR hrl;clear h1 h2;have hone : True:=trivial
 all_goals
  rw [hop] at hm;have HM:=hm _ rfl;simp only [argMost] at HM;clear hm;first | simp only [Int.reduceEq,if_true] at HM | simp only [Int.reduceEq,if_false,or_self,or_true,true_or,or_false,false_or,if_true] at HM
  try simp only [Int.reduceEq,if_false,or_self,or_true,true_or,or_false,false_or,if_true] at HM
  have e1 : (x.op == 1) = true:=by rw [hop];rfl
  have e4 : (x.op == 4) = false:=by rw [hop];rfl
  have e5 : (x.op == 5) = false:=by rw [hop];rfl
  have e6 : (x.op == 6) = false:=by rw [hop];rfl
  have e7 : (x.op == 7) = false:=by rw [hop];rfl
  have e2 : (x.op == 2) = false:=by rw [hop];rfl
  have g2 : (x.op != 2) = true:=by rw [hop];rfl
  have g3 : (x.op != 3) = true:=by rw [hop];rfl
  rw [ei];clear ei hop
  go_enter Tryz.func157, Tryz.ntmps157
  go_wp2_with fail
  refine (l01In_any _ _ _ _).mono ?_;rintro e w' ⟨rfl,rfl⟩;rw [H19.out];go_wp2_with fail
  refine (l01In_any _ _ _ _).mono ?_;rintro e w' ⟨rfl,rfl⟩;first | rw [HM.out] | (have HM2 : (decide (0 ≤ x.arg) && decide (x.arg ≤ 0)) = true:=(by have h:=HM.out;rwa [show (((1 : Nat) : Int) - 1) = 0 from rfl] at h);rw [HM2])
  go_wp2_with fail
  rw [← HEI.out];have hbx:=codeBox w v k;have hix:=insCells (w.alloc (.cells #[.slice v.gA k.globals.length v.gc, .slice v.lA k.locks.length v.lc, .slice v.pA k.procs.length v.pc, .slice v.eA k.entry.length v.ec, .slice v.iA k.ins.length v.ic] 28)) x A2 c2 (w.heap.size + 1) (by simp);have hbx:=hbx.to (below_alloc0 _ (.cells #[.int .i64 x.op,.int .i64 x.arg,.int .i64 x.term.kind,.int .i64 x.term.num,.string x.term.name,.slice A2 x.term.kids.length c2,.int .i64 x.to] 52));generalize (w.alloc (.cells #[.slice v.gA k.globals.length v.gc, .slice v.lA k.locks.length v.lc, .slice v.pA k.procs.length v.pc, .slice v.eA k.entry.length v.ec, .slice v.iA k.ins.length v.ic] 28)).alloc (.cells #[.int .i64 x.op,.int .i64 x.arg,.int .i64 x.term.kind,.int .i64 x.term.num,.string x.term.name,.slice A2 x.term.kids.length c2,.int .i64 x.to] 52) = W at hbx hix ⊢;obtain ⟨hb0,hs0,b0,b1,b2,b3,b4⟩:=id hbx;obtain ⟨hs1,j0,j1,j2,j3,j4,j5,j6⟩:=id hix;refine (HT.out _ (mk.below hb0)).mono ?_;rintro r w2 ⟨rfl,hb2⟩;have hb02:=below_trans' hb0 hb2;have hbx2:=hbx.to hb2;have hix2:=hix.to hb2;cases z
  ·
   go_wp2_with fail
   go_ret
   exact fin _ _ (by rw [HN1.out];rfl) hb02
  obtain ⟨_,hsV,v0,v1,v2,v3,v4⟩:=id hbx2;obtain ⟨hsV1,y0,y1,y2,y3,y4,y5,y6⟩:=id hix2;go_wp2_with fail
  refine (HR.out _ (mk.below hb02)).mono ?_;rintro r w3 ⟨A3,c3,rfl,ho3,hb3⟩;have hb03:=below_trans' hb02 hb3;have hbx3:=hbx2.to hb3;have hix3:=hix2.to hb3;have hr3:=own_rd ho3;have hg3:=(hkf.below hb03).g;obtain ⟨_,hsX,x0,x1,x2,x3,x4⟩:=id hbx3;clear b0 b1 b2 b3 b4 j0 j1 j2 j3 j4 j5 j6 v0 v1 v2 v3 v4 y0 y1 y2 y3 y4 y5 y6;go_wp2_with fail
  go_loopw [8] (fun i wr=>∃ q : Nat,q ≤ rs.length ∧ i = .int .i64 q ∧ (rs.take q).all (fun s=>decide (s ∈ k.globals)) = true ∧ Drew w3 wr) (fun i _=>rs.length - (intOf i).toNat)
  case atStart=>exact ⟨0,by omega,rfl,rfl,Drew.refl _⟩
  case round =>
   obtain ⟨q,hq,rfl,hall,hdr⟩:=hrel;have HA:=Lib.hid hall;clear hall;have hbxr:=hbx3.to (hdr.below _);have hixr:=hix3.to (hdr.below _);have hb0r:=below_trans' hb03 (hdr.below _);obtain ⟨_,hsR,r0,r1,r2,r3,r4⟩:=id hbxr;obtain ⟨hsR1,p0,p1,p2,p3,p4,p5,p6⟩:=id hixr;by_cases hlt : q < rs.length
   ·
    have hgr:=hdr.rd hg3;obtain ⟨ad,rfl,_,hc⟩:=(hdr.rd hr3).str hlt;have HTK:=Lib.hid (List.take_succ_eq_append_getElem hlt);have HMM:=Lib.hid (List.getElem_mem hlt);have u1 : (0 : Int) ≤ (q : Int):=by omega
    have u2 : (q : Int) < (rs.length : Int):=by omega
    have HPL : Hid (decide (placeOf k.globals rs[q] < 0) = !decide (rs[q] ∈ k.globals)):=by
     by_cases hmm : rs[q] ∈ k.globals
     · rw [placeOf,if_pos hmm,decide_eq_true hmm,decide_eq_false (by omega)];exact rfl
     · rw [placeOf,if_neg hmm,decide_eq_false hmm];exact rfl
    have HC:=Lib.hid (fun W (h : Rd W w.heap.size v.gA (k.globals.map sv))=>placeOf_s v.gA v.gc k.globals rs[q] W h (by omega));generalize placeOf k.globals rs[q] = pm at HPL HC;cases hdm : decide (rs[q] ∈ k.globals)
    ·
     have HDM:=Lib.hid hdm;have hpm : decide (pm < 0) = true:=by rw [HPL.out,hdm];rfl
     clear hdm;go_wp2_with fail
     go_quiet ((go_at_call 205;exact quiet_left (HC.out _ hgr)))
     go_wp2_with fail
     go_ret
     have hf : rs.all (fun s=>decide (s ∈ k.globals)) = false:=List.all_eq_false.2 ⟨_,HMM.out,by rw [HDM.out];simp⟩;exact fin _ _ (by rw [HN1.out,hf];simp) (below_drewN hb0r _)
    ·
     have HDM:=Lib.hid hdm;have hpm : decide (pm < 0) = false:=by rw [HPL.out,hdm];rfl
     clear hdm;go_wp2_with fail
     go_quiet ((go_at_call 205;exact quiet_left (HC.out _ hgr)))
     go_wp2_with fail
     go_roundw
     case rel=>exact ⟨q + 1,by omega,by go_num,by rw [HTK.out,List.all_append,HA.out];simp only [List.all_cons,List.all_nil,HDM.out,Bool.and_self],hdr.more _⟩
     case measure=>simp [intOf];omega
   ·
    have hf : rs.all (fun s=>decide (s ∈ k.globals)) = true:=by have:=HA.out;rwa [List.take_of_length_le (by omega)] at this
    have HF:=Lib.hid hf;clear hf;go_wp2_with fail
    go_ret
    refine fin _ _ ?_ hb0r;rw [HN1.out,HF.out,Bool.eq_iff_iff];simp
theorem l08Ins_test {B L : Nat} (v : CV) (k : Cd) (a : Nat) (w : World) (hk : CodeAt w B v k) (hcb : CdB L k) (hL : L ≤ 1099511627776) (hd : Head k) (ha : a < k.ins.length) (hop : k.ins[a].op = 2) (h1 : 0 ≤ k.ins[a].arg) (h2 : k.ins[a].arg < argMost k k.ins[a].op) :
  Calls Tryz.prog 157 #[.agg #[.slice v.gA k.globals.length v.gc, .slice v.lA k.locks.length v.lc, .slice v.pA k.procs.length v.pc, .slice v.eA k.entry.length v.ec, .slice v.iA k.ins.length v.ic],.int .i64 a] w fun r w'=>r = .returned (.bool (insS k a)) ∧ Below w.heap.size w w':=by
 have hkf:=hk.full;have hil:=hcb.ins;have hgl:=hcb.globals;have hll:=hcb.locks;have hpl:=hcb.procs;have hel:=hcb.entry;have hxb:=hcb.insB _ (List.getElem_mem ha);obtain ⟨hpq,hql⟩:=hd.proc a;have fin : ∀ (y : Bool) w',y = insS k a → Below w.heap.size w w' → Ending.returned (.bool y) = .returned (.bool (insS k a)) ∧ Below w.heap.size w w':=fun y w' h1 h2=>⟨by rw [h1],h2⟩
 have HN:=Lib.hid (show insS k a = insB k k.ins[a] (entryAt k (procN k a)) (endP k (procN k a)) from by rw [insS,insBat,List.getElem?_eq_getElem ha]);obtain ⟨ai,A2,c2,ei,hbi,m0,m1,m2,m3,m4,m5,m6,mk⟩:=hkf.i.get ha;generalize k.ins[a] = x at *;obtain ⟨f1,f2,f3,f4⟩:=hxb.term.fits;have HEI:=Lib.hid ei;have HXB:=Lib.hid hxb;have HCB:=Lib.hid hcb;have HD:=Lib.hid hd;have HPQ:=Lib.hid hpq;clear hxb hcb hk hd hpq;have hm : ∀ n : Nat,argMost k x.op = n → Hid ((decide (0 ≤ x.arg) && decide (x.arg ≤ (n : Int) - 1)) = true):=by
  intro n hn;rw [hn] at h2;exact Bool.and_eq_true_iff.2 ⟨decide_eq_true h1,decide_eq_true (by omega)⟩
 have H19:=Lib.hid (show (decide (1 ≤ x.op) && decide (x.op ≤ 9)) = true from Bool.and_eq_true_iff.2 ⟨decide_eq_true (by omega),decide_eq_true (by omega)⟩);have hrl:=readsF_len6 x.term;have HT:=Lib.hid (fun W (h : KidsAt W w.heap.size A2 x.term.kids)=>termOk_s x.term A2 c2 W h HXB.out.term hL);have HR:=Lib.hid (fun W (h : KidsAt W w.heap.size A2 x.term.kids)=>readsOf_s x.term A2 c2 W h HXB.out.term hL);have HN1:=Lib.hid (show insS k a = (termOk 6 x.term && (readsOf x.term).all (fun s=>decide (s ∈ k.globals)) && (decide (entryAt k (procN k a) ≤ x.to) && decide (x.to < endP k (procN k a)))) from by
  rw [HN.out,insB,if_pos (by omega),if_pos (by omega),decide_eq_true (by omega),decide_eq_true (by omega),decide_eq_true h1,decide_eq_true h2];simp)
 clear HN;generalize termOk 6 x.term = z at HN1 HT;generalize readsOf x.term = rs at HN1 HR hrl;clear h1 h2;have hone : True:=trivial
 all_goals
  rw [hop] at hm;have HM:=hm _ rfl;simp only [argMost] at HM;clear hm;first | simp only [Int.reduceEq,if_true] at HM | simp only [Int.reduceEq,if_false,or_self,or_true,true_or,or_false,false_or,if_true] at HM
  try simp only [Int.reduceEq,if_false,or_self,or_true,true_or,or_false,false_or,if_true] at HM
  have e1 : (x.op == 1) = false:=by rw [hop];rfl
  have e4 : (x.op == 4) = false:=by rw [hop];rfl
  have e5 : (x.op == 5) = false:=by rw [hop];rfl
  have e6 : (x.op == 6) = false:=by rw [hop];rfl
  have e7 : (x.op == 7) = false:=by rw [hop];rfl
  have e2 : (x.op == 2) = true:=by rw [hop];rfl
  have g2 : (x.op != 2) = false:=by rw [hop];rfl
  have g3 : (x.op != 3) = true:=by rw [hop];rfl
  rw [ei];clear ei hop
  go_enter Tryz.func157, Tryz.ntmps157
  go_wp2_with fail
  refine (l01In_any _ _ _ _).mono ?_;rintro e w' ⟨rfl,rfl⟩;rw [H19.out];go_wp2_with fail
  refine (l01In_any _ _ _ _).mono ?_;rintro e w' ⟨rfl,rfl⟩;first | rw [HM.out] | (have HM2 : (decide (0 ≤ x.arg) && decide (x.arg ≤ 0)) = true:=(by have h:=HM.out;rwa [show (((1 : Nat) : Int) - 1) = 0 from rfl] at h);rw [HM2])
  go_wp2_with fail
  rw [← HEI.out];have hbx:=codeBox w v k;have hix:=insCells (w.alloc (.cells #[.slice v.gA k.globals.length v.gc, .slice v.lA k.locks.length v.lc, .slice v.pA k.procs.length v.pc, .slice v.eA k.entry.length v.ec, .slice v.iA k.ins.length v.ic] 28)) x A2 c2 (w.heap.size + 1) (by simp);have hbx:=hbx.to (below_alloc0 _ (.cells #[.int .i64 x.op,.int .i64 x.arg,.int .i64 x.term.kind,.int .i64 x.term.num,.string x.term.name,.slice A2 x.term.kids.length c2,.int .i64 x.to] 52));generalize (w.alloc (.cells #[.slice v.gA k.globals.length v.gc, .slice v.lA k.locks.length v.lc, .slice v.pA k.procs.length v.pc, .slice v.eA k.entry.length v.ec, .slice v.iA k.ins.length v.ic] 28)).alloc (.cells #[.int .i64 x.op,.int .i64 x.arg,.int .i64 x.term.kind,.int .i64 x.term.num,.string x.term.name,.slice A2 x.term.kids.length c2,.int .i64 x.to] 52) = W at hbx hix ⊢;obtain ⟨hb0,hs0,b0,b1,b2,b3,b4⟩:=id hbx;obtain ⟨hs1,j0,j1,j2,j3,j4,j5,j6⟩:=id hix;refine (HT.out _ (mk.below hb0)).mono ?_;rintro r w2 ⟨rfl,hb2⟩;have hb02:=below_trans' hb0 hb2;have hbx2:=hbx.to hb2;have hix2:=hix.to hb2;cases z
  ·
   go_wp2_with fail
   go_ret
   exact fin _ _ (by rw [HN1.out];rfl) hb02
  obtain ⟨_,hsV,v0,v1,v2,v3,v4⟩:=id hbx2;obtain ⟨hsV1,y0,y1,y2,y3,y4,y5,y6⟩:=id hix2;go_wp2_with fail
  refine (HR.out _ (mk.below hb02)).mono ?_;rintro r w3 ⟨A3,c3,rfl,ho3,hb3⟩;have hb03:=below_trans' hb02 hb3;have hbx3:=hbx2.to hb3;have hix3:=hix2.to hb3;have hr3:=own_rd ho3;have hg3:=(hkf.below hb03).g;obtain ⟨_,hsX,x0,x1,x2,x3,x4⟩:=id hbx3;clear b0 b1 b2 b3 b4 j0 j1 j2 j3 j4 j5 j6 v0 v1 v2 v3 v4 y0 y1 y2 y3 y4 y5 y6;go_wp2_with fail
  go_loopw [8] (fun i wr=>∃ q : Nat,q ≤ rs.length ∧ i = .int .i64 q ∧ (rs.take q).all (fun s=>decide (s ∈ k.globals)) = true ∧ Drew w3 wr) (fun i _=>rs.length - (intOf i).toNat)
  case atStart=>exact ⟨0,by omega,rfl,rfl,Drew.refl _⟩
  case round =>
   obtain ⟨q,hq,rfl,hall,hdr⟩:=hrel;have HA:=Lib.hid hall;clear hall;have hbxr:=hbx3.to (hdr.below _);have hixr:=hix3.to (hdr.below _);have hb0r:=below_trans' hb03 (hdr.below _);obtain ⟨_,hsR,r0,r1,r2,r3,r4⟩:=id hbxr;obtain ⟨hsR1,p0,p1,p2,p3,p4,p5,p6⟩:=id hixr;by_cases hlt : q < rs.length
   ·
    have hgr:=hdr.rd hg3;obtain ⟨ad,rfl,_,hc⟩:=(hdr.rd hr3).str hlt;have HTK:=Lib.hid (List.take_succ_eq_append_getElem hlt);have HMM:=Lib.hid (List.getElem_mem hlt);have u1 : (0 : Int) ≤ (q : Int):=by omega
    have u2 : (q : Int) < (rs.length : Int):=by omega
    have HPL : Hid (decide (placeOf k.globals rs[q] < 0) = !decide (rs[q] ∈ k.globals)):=by
     by_cases hmm : rs[q] ∈ k.globals
     · rw [placeOf,if_pos hmm,decide_eq_true hmm,decide_eq_false (by omega)];exact rfl
     · rw [placeOf,if_neg hmm,decide_eq_false hmm];exact rfl
    have HC:=Lib.hid (fun W (h : Rd W w.heap.size v.gA (k.globals.map sv))=>placeOf_s v.gA v.gc k.globals rs[q] W h (by omega));generalize placeOf k.globals rs[q] = pm at HPL HC;cases hdm : decide (rs[q] ∈ k.globals)
    ·
     have HDM:=Lib.hid hdm;have hpm : decide (pm < 0) = true:=by rw [HPL.out,hdm];rfl
     clear hdm;go_wp2_with fail
     go_quiet ((go_at_call 205;exact quiet_left (HC.out _ hgr)))
     go_wp2_with fail
     go_ret
     have hf : rs.all (fun s=>decide (s ∈ k.globals)) = false:=List.all_eq_false.2 ⟨_,HMM.out,by rw [HDM.out];simp⟩;exact fin _ _ (by rw [HN1.out,hf];simp) (below_drewN hb0r _)
    ·
     have HDM:=Lib.hid hdm;have hpm : decide (pm < 0) = false:=by rw [HPL.out,hdm];rfl
     clear hdm;go_wp2_with fail
     go_quiet ((go_at_call 205;exact quiet_left (HC.out _ hgr)))
     go_wp2_with fail
     go_roundw
     case rel=>exact ⟨q + 1,by omega,by go_num,by rw [HTK.out,List.all_append,HA.out];simp only [List.all_cons,List.all_nil,HDM.out,Bool.and_self],hdr.more _⟩
     case measure=>simp [intOf];omega
   ·
    have hf : rs.all (fun s=>decide (s ∈ k.globals)) = true:=by have:=HA.out;rwa [List.take_of_length_le (by omega)] at this
    have HF:=Lib.hid hf;clear hf;have HN2:=Lib.hid (show insS k a = (decide (entryAt k (procN k a) ≤ x.to) && decide (x.to < endP k (procN k a))) from by rw [HN1.out,HF.out];simp);clear HN1 HF;clear r0 r1 r2 r3 r4 p0 p1 p2 p3 p4 p5 p6 x0 x1 x2 x3 x4;have hkT:=hkf.below hb0r;obtain ⟨hbT,hsT,u0,u1,u2,u3,u4⟩:=id hbxr;obtain ⟨hsT1,i0,i1,i2,i3,i4,i5,i6⟩:=id hixr;go_wp2_with fail
    refine (l08Proc_any v k a _ hkT (by omega) (by omega)).mono ?_;rintro r W3 ⟨rfl,hbp⟩;rw [HPQ.out];have hb3:=below_trans' hb0r hbp;have hbx3:=CodeBox.to hbxr hbp;have hix3:=InsCells.to hixr hbp;obtain ⟨_,hsV,v0,v1,v2,v3,v4⟩:=id hbx3;obtain ⟨hsV1,y0,y1,y2,y3,y4,y5,y6⟩:=id hix3;have hk3:=hkf.below hb3;obtain ⟨ae,ee,hbe,hce⟩:=hk3.e.int hql;rw [← entryAt_eq k _ hql] at hce;have hbe' : (ae.add (procN k a)).block < W3.heap.size:=by rw [block_of_add];omega
    have HPE:=fun W (h : CodeAt W w.heap.size v k)=>l08End_any v k (procN k a) W h HCB.out hL (by omega) (fun hh=>HD.out.nn _ hh);rw [ee] at HPE v3 ⊢;clear ee;have HPE:=Lib.hid HPE;generalize procN k a = q at *;generalize entryAt k q = E at *;generalize endP k q = F at *;have z1 : (0 : Int) ≤ (q : Int):=by omega
    have z2 : (q : Int) < (k.entry.length : Int):=by omega
    go_wp2_with fail
    go_region_held3 (fun w' => Below W3.heap.size W3 w' ∧ CodeAt w' w.heap.size v k ∧ w'.cell? ⟨w.heap.size, 0, none⟩ = some (.slice v.gA k.globals.length v.gc) ∧ w'.cell? ⟨w.heap.size, 1, none⟩ = some (.slice v.lA k.locks.length v.lc) ∧
      w'.cell? ⟨w.heap.size,2,none⟩ = some (.slice v.pA k.procs.length v.pc) ∧ w'.cell? ⟨w.heap.size,3,none⟩ = some (.slice (some ae) k.entry.length v.ec) ∧ w'.cell? ⟨w.heap.size,4,none⟩ = some (.slice v.iA k.ins.length v.ic) ∧
      w'.cell? ⟨w.heap.size + 1,6,none⟩ = some (.int .i64 x.to) ∧ w'.cell? (ae.add q) = some (.int .i64 E))
     (first | exact ⟨(Below.refl _ _).drew,hk3.below ((Below.refl _ _).drew),v0,v1,v2,v3,v4,y6,hce⟩ | assumption | (go_split_ands;refine ⟨below_trans' (by assumption) hb1,CodeAt.below (by assumption) (hb1.mono (by have:=Below.size (by assumption : Below W3.heap.size W3 _);omega)),?_,?_,?_,?_,?_,?_,?_⟩ <;> exact cell_below hb1 (by assumption)))
     (first | (go_at_call 93;go_split_ands;refine (HPE.out _ (by assumption)).mono ?_;rintro e w1 ⟨rfl,hb1⟩) | (go_at_call 92;refine (l01In_any _ _ _ _).mono ?_;rintro e w1 ⟨rfl,rfl⟩))
    rename_i W4 _ hS;have hbS:=hS.1;clear hS;go_wp2_with fail
    go_ret
    refine fin _ _ ?_ (below_trans' hb3 hbS);rw [HN2.out];congr 1
    rw [Bool.eq_iff_iff,decide_eq_true_eq,decide_eq_true_eq];omega
theorem l08Ins_any {B L : Nat} (v : CV) (k : Cd) (a : Nat) (w : World) (hk : CodeAt w B v k) (hcb : CdB L k) (hL : L ≤ 1099511627776) (hd : Head k) (ha : a < k.ins.length) :
  Calls Tryz.prog 157 #[.agg #[.slice v.gA k.globals.length v.gc, .slice v.lA k.locks.length v.lc, .slice v.pA k.procs.length v.pc, .slice v.eA k.entry.length v.ec, .slice v.iA k.ins.length v.ic],.int .i64 a] w fun r w'=>r = .returned (.bool (insS k a)) ∧ Below w.heap.size w w':=by
 have hx : insS k a = insB k k.ins[a] (entryAt k (procN k a)) (endP k (procN k a)):=by rw [insS,insBat,List.getElem?_eq_getElem ha]
 by_cases h1 : 1 ≤ k.ins[a].op ∧ k.ins[a].op ≤ 9
 ·
  by_cases h2 : 0 ≤ k.ins[a].arg ∧ k.ins[a].arg < argMost k k.ins[a].op
  ·
   by_cases o1 : k.ins[a].op = 1
   · exact l08Ins_set v k a w hk hcb hL hd ha o1 h2.1 h2.2
   ·
    by_cases o2 : k.ins[a].op = 2
    · exact l08Ins_test v k a w hk hcb hL hd ha o2 h2.1 h2.2
    ·
     by_cases o3 : k.ins[a].op = 3
     · exact l08Ins_jump v k a w hk hcb hL hd ha o3 h2.1 h2.2
     · exact l08Ins_zero v k a w hk hcb hL hd ha (by omega) h1.2 h2.1 h2.2
  ·
   refine (l08Ins_arg v k a w hk hcb hL ha h1.1 h1.2 h2).mono fun r w' ⟨hr,hw⟩=>⟨?_,hw⟩
   have : insS k a = false:=by
    rw [hx,insB];by_cases h3 : 0 ≤ k.ins[a].arg
    · rw [decide_eq_false (show ¬ k.ins[a].arg < argMost k k.ins[a].op from fun h4=>h2 ⟨h3,h4⟩)];simp
    · rw [decide_eq_false h3];simp
   rw [hr,this]
 ·
  refine (l08Ins_bad v k a w hk hcb hL ha h1).mono fun r w' ⟨hr,hw⟩=>⟨?_,hw⟩
  have : insS k a = false:=by
   rw [hx,insB];by_cases h3 : 1 ≤ k.ins[a].op
   · rw [decide_eq_false (show ¬ k.ins[a].op ≤ 9 from fun h4=>h1 ⟨h3,h4⟩)];simp
   · rw [decide_eq_false h3];simp
  rw [hr,this]
def codeOkS (k : Cd) : Bool:=headsB k && (List.range k.ins.length).all (insS k)
theorem codeOk_s {B L : Nat} (v : CV) (k : Cd) (w : World) (hk : CodeAt w B v k) (hcb : CdB L k) (hL : L ≤ 1099511627776) :
  Calls Tryz.prog 84 #[.agg #[.slice v.gA k.globals.length v.gc, .slice v.lA k.locks.length v.lc, .slice v.pA k.procs.length v.pc, .slice v.eA k.entry.length v.ec, .slice v.iA k.ins.length v.ic]] w fun r w'=>r = .returned (.bool (codeOkS k)) ∧ Below w.heap.size w w':=by
 have hkf:=hk.full;have fin : ∀ (y : Bool) w',y = codeOkS k → Below w.heap.size w w' → Ending.returned (.bool y) = .returned (.bool (codeOkS k)) ∧ Below w.heap.size w w':=fun y w' h1 h2=>⟨by rw [h1],h2⟩
 have HO:=Lib.hid (show codeOkS k = (headsB k && (List.range k.ins.length).all (insS k)) from rfl);have HCB:=Lib.hid hcb;have hil:=hcb.ins;clear hcb hk;have hbx:=codeBox w v k
 go_enter Tryz.func84, Tryz.ntmps84
 go_wp2_with fail
 generalize w.alloc (.cells #[.slice v.gA k.globals.length v.gc, .slice v.lA k.locks.length v.lc, .slice v.pA k.procs.length v.pc, .slice v.eA k.entry.length v.ec, .slice v.iA k.ins.length v.ic] 28) = W at hbx ⊢;obtain ⟨hb0,hs0,b0,b1,b2,b3,b4⟩:=id hbx;refine (l08Heads_any v k _ (hkf.below hb0) HCB.out hL).mono ?_;rintro r w1 ⟨rfl,hb1⟩;have hbx1:=hbx.to hb1;obtain ⟨hb01,hs1,c0,c1,c2,c3,c4⟩:=id hbx1;cases hh : headsB k
 ·
  have HH:=Lib.hid hh;clear hh;go_wp2_with fail
  go_ret
  exact fin _ _ (by rw [HO.out,HH.out];rfl) hb01
 have HH:=Lib.hid hh;have HD:=Lib.hid (head_of hh);clear hh;go_wp2_with fail
 go_loopw [3] (fun i wr=>∃ n : Nat,n ≤ k.ins.length ∧ i = .int .i64 n ∧ (List.range n).all (insS k) = true ∧ Below w1.heap.size w1 wr) (fun i _=>k.ins.length - (intOf i).toNat)
 case atStart=>exact ⟨0,by omega,rfl,rfl,Below.refl _ _⟩
 case round =>
  obtain ⟨n,hn,rfl,hall,hbr⟩:=hrel;have HALL:=Lib.hid hall;clear hall;have hbxr:=hbx1.to hbr;obtain ⟨hb0r,hsr,r0,r1,r2,r3,r4⟩:=id hbxr;by_cases hlt : n < k.ins.length
  ·
   have HI:=Lib.hid (l08Ins_any v k n wr (hkf.below hb0r) HCB.out hL HD.out hlt);cases hi : insS k n
   ·
    have HII:=Lib.hid hi;rw [hi] at HI;clear hi;go_wp2_with fail
    refine HI.out.mono ?_;rintro r w2 ⟨rfl,hb2⟩;go_wp2_with fail
    go_ret
    exact fin _ _ (by rw [HO.out,all_range_false hlt HII.out];simp) (below_trans' hb0r hb2)
   ·
    have HII:=Lib.hid hi;rw [hi] at HI;clear hi;go_wp2_with fail
    refine HI.out.mono ?_;rintro r w2 ⟨rfl,hb2⟩;go_wp2_with fail
    go_roundw
    case rel=>exact ⟨n + 1,by omega,by go_num,by rw [all_range_succ,HALL.out,HII.out];rfl,below_trans' hbr hb2⟩
    case measure=>simp [intOf];omega
  ·
   go_wp2_with fail
   go_ret
   obtain rfl : n = k.ins.length:=by omega
   exact fin _ _ (by rw [HO.out,HH.out,HALL.out];rfl) hb0r
end Go.Proofs.YtkgoajnnkimkaaaGreat
namespace Go.Proofs.YtkgoajnnkimkaaaGreat
theorem rise_step {k : Cd} (h : ∀ i,i < k.entry.length → riseB k i = true) {i : Nat} (hi : i + 1 < k.entry.length) : entryAt k i < entryAt k (i + 1):=by
 have:=h (i + 1) hi;simp only [riseB,Nat.add_one_ne_zero,if_false,Bool.and_eq_true,decide_eq_true_eq,Nat.add_sub_cancel] at this;exact this.1
theorem rise_lt {k : Cd} (h : ∀ i,i < k.entry.length → riseB k i = true) {i : Nat} (hi : i < k.entry.length) : entryAt k i < k.ins.length:=by
 have:=h i hi;simp only [riseB,Bool.and_eq_true,decide_eq_true_eq] at this;exact this.2
theorem rise_mono {k : Cd} (h : ∀ i,i < k.entry.length → riseB k i = true) {i j : Nat} (hij : i < j) (hj : j < k.entry.length) : entryAt k i < entryAt k j:=by
 induction j with
 | zero=>omega
 | succ j ih =>
  have h1:=rise_step h hj;rcases Nat.lt_or_ge i j with h2 | h2
  · have:=ih h2 (by omega);omega
  ·
   obtain rfl : i = j:=by omega
   exact h1
theorem endP_last {k : Cd} {i : Nat} (h : ¬ i + 1 < k.entry.length) : endP k i = k.ins.length:=by rw [endP,dif_neg h]
theorem endP_next {k : Cd} {i : Nat} (h : i + 1 < k.entry.length) : endP k i = entryAt k (i + 1):=by rw [endP,dif_pos h,entryAt_eq k _ h]
theorem procTo_of {k : Cd} (h : ∀ i,i < k.entry.length → riseB k i = true) {i a : Nat} (hi : i < k.entry.length) (h1 : entryAt k i ≤ a) (h2 : (a : Int) < endP k i) : procI k a = i:=by
 have key : ∀ n,i < n → n ≤ k.entry.length → procTo k a n = i:=by
  intro n;induction n with
  | zero=>intro h;omega
  | succ n ih =>
   intro hin hn;unfold procTo;by_cases e : i = n
   · subst e;rw [if_pos h1]
   ·
    rw [if_neg,ih (by omega) (by omega)];have h3 : i + 1 < k.entry.length:=by omega
    rw [endP_next h3] at h2;have h4 : entryAt k (i + 1) ≤ entryAt k n:=by
     by_cases e2 : i + 1 = n
     · rw [e2];exact Int.le_refl _
     · have:=rise_mono h (i:=i + 1) (j:=n) (by omega) (by omega);omega
    omega
 exact key _ hi (Nat.le_refl _)
theorem proc_in {k : Cd} (h : ∀ i, i < k.entry.length → riseB k i = true) (h0 : entryAt k 0 = 0) (hel : 1 ≤ k.entry.length) {a : Nat} (ha : a < k.ins.length) :
  ∃ i,i < k.entry.length ∧ procI k a = i ∧ entryAt k i ≤ a ∧ (a : Int) < endP k i:=by
 have key : ∀ n,1 ≤ n → n ≤ k.entry.length → ((a : Int) < endP k (n - 1)) → ∃ i,i < n ∧ entryAt k i ≤ a ∧ (a : Int) < endP k i:=by
  intro n;induction n with
  | zero=>intro h;omega
  | succ n ih =>
   intro _ hn hlt;rw [Nat.add_sub_cancel] at hlt;by_cases e : entryAt k n ≤ a
   · exact ⟨n,by omega,e,hlt⟩
   ·
    cases n with
    | zero=>rw [h0] at e;omega
    | succ n =>
     obtain ⟨i,h1,h2,h3⟩:=ih (by omega) (by omega) (by rw [Nat.add_sub_cancel,endP_next (by omega)];omega);exact ⟨i,by omega,h2,h3⟩
 obtain ⟨i,h1,h2,h3⟩:=key k.entry.length hel (Nat.le_refl _) (by rw [endP_last (by omega)];omega);exact ⟨i,h1,procTo_of h h1 h2 h3,h2,h3⟩
theorem opAt_nat (k : Cd) (a : Nat) (h : a < k.ins.length) : opAt k (a : Int) = k.ins[a].op:=by
 rw [opAt,Int.toNat_natCast,List.getElem?_eq_getElem h];rfl
theorem endsTo_step (k : Cd) (a : Nat) (h : a < k.ins.length) : endsTo k (a + 1) = endsTo k a + (if opAt k a = 9 then 1 else 0):=by
 rw [endsTo_succ k a h,opAt_nat k a h]
theorem endsTo_mono (k : Cd) {a b : Nat} (hab : a ≤ b) (hb : b ≤ k.ins.length) : endsTo k a ≤ endsTo k b:=by
 induction b with
 | zero => obtain rfl : a = 0 := by omega
           exact Nat.le_refl _
 | succ b ih =>
  rcases Nat.lt_or_ge a (b + 1) with h | h
  · have:=ih (by omega) (by omega);have:=endsTo_step k b (by omega);omega
  ·
   obtain rfl : a = b + 1:=by omega
   exact Nat.le_refl _
section
variable {k : Cd} (hr : ∀ i,i < k.entry.length → riseB k i = true) (h0 : entryAt k 0 = 0) (hel : 1 ≤ k.entry.length)
include hr h0 hel
theorem entry_nn {i : Nat} (hi : i < k.entry.length) : 0 ≤ entryAt k i:=by
 cases i with
 | zero=>rw [h0];exact Int.le_refl 0
 | succ i=>have:=rise_mono hr (i:=0) (j:=i + 1) (by omega) hi;omega
theorem endP_bounds {i : Nat} (hi : i < k.entry.length) : entryAt k i < endP k i ∧ endP k i ≤ k.ins.length:=by
 by_cases h : i + 1 < k.entry.length
 · rw [endP_next h];have h1:=rise_step hr h;have h2:=rise_lt hr h;omega
 · rw [endP_last h];have h2:=rise_lt hr hi;omega
theorem ends_ge (h9 : ∀ i,i < k.entry.length → opAt k (endP k i - 1) = 9) (i j : Nat) (hij : i ≤ j) (hj : j < k.entry.length) : endsTo k (endP k i).toNat + (j - i) ≤ endsTo k (endP k j).toNat:=by
 induction j with
 | zero => obtain rfl : i = 0 := by omega
           omega
 | succ j ih =>
  rcases Nat.lt_or_ge i (j + 1) with h | h
  ·
   have h1:=ih (by omega) (by omega);have hb:=endP_bounds hr h0 hel hj;have hbj:=endP_bounds hr h0 hel (i:=j) (by omega);have hnn:=entry_nn hr h0 hel hj;rw [endP_next hj] at hbj h1;obtain ⟨m,hm⟩ : ∃ m : Nat,endP k (j + 1) = (m : Int) + 1:=⟨(endP k (j + 1) - 1).toNat,by omega⟩
   have h9':=h9 _ hj;rw [hm,show ((m : Int) + 1 - 1) = (m : Int) from by omega] at h9';have hs:=endsTo_step k m (by omega);rw [if_pos h9'] at hs;have hmo:=endsTo_mono k (a:=(entryAt k (j + 1)).toNat) (b:=m) (by omega) (by omega);rw [hm,show ((m : Int) + 1).toNat = m + 1 from by omega,hs];omega
  ·
   obtain rfl : i = j + 1:=by omega
   omega
theorem ends_first (h9 : ∀ i,i < k.entry.length → opAt k (endP k i - 1) = 9) {i : Nat} (hi : i < k.entry.length) : i + 1 ≤ endsTo k (endP k i).toNat:=by
 have h1:=ends_ge hr h0 hel h9 0 i (by omega) hi;have hb:=endP_bounds hr h0 hel (i:=0) (by omega);rw [h0] at hb;obtain ⟨m,hm⟩ : ∃ m : Nat,endP k 0 = (m : Int) + 1:=⟨(endP k 0 - 1).toNat,by omega⟩
 have h9':=h9 0 (by omega);rw [hm,show ((m : Int) + 1 - 1) = (m : Int) from by omega] at h9';have hs:=endsTo_step k m (by omega);rw [if_pos h9'] at hs;rw [hm,show ((m : Int) + 1).toNat = m + 1 from by omega,hs] at h1;omega
theorem ends_only (h9 : ∀ i,i < k.entry.length → opAt k (endP k i - 1) = 9) (hc : endsTo k k.ins.length = k.entry.length) {i a : Nat} (hi : i < k.entry.length) (h1 : entryAt k i ≤ a) (h2 : (a : Int) < endP k i) (ha : opAt k a = 9) : (a : Int) = endP k i - 1:=by
 apply Classical.byContradiction;intro hne;have hb:=endP_bounds hr h0 hel hi;have hnn:=entry_nn hr h0 hel hi;obtain ⟨m,hm⟩ : ∃ m : Nat,endP k i = (m : Int) + 1:=⟨(endP k i - 1).toNat,by omega⟩
 have h9':=h9 i hi;rw [hm,show ((m : Int) + 1 - 1) = (m : Int) from by omega] at h9';have hs:=endsTo_step k m (by omega);rw [if_pos h9'] at hs;have hs2:=endsTo_step k a (by omega);rw [if_pos ha] at hs2;have hmo:=endsTo_mono k (a:=a + 1) (b:=m) (by omega) (by omega);have hmo2:=endsTo_mono k (a:=(entryAt k i).toNat) (b:=a) (by omega) (by omega);have hbefore : i ≤ endsTo k (entryAt k i).toNat:=by
  cases i with
  | zero=>omega
  | succ i =>
   have h3:=ends_first hr h0 hel h9 (i:=i) (by omega);rw [endP_next hi] at h3;exact h3
 have hge:=ends_ge hr h0 hel h9 i (k.entry.length - 1) (by omega) (by omega);rw [endP_last (i:=k.entry.length - 1) (by omega),hm,show ((m : Int) + 1).toNat = m + 1 from by omega,Int.toNat_natCast,hc,hs] at hge;omega
theorem ends_count (h9 : ∀ a,a < k.ins.length → (opAt k a = 9 ↔ endP k (procN k a) - 1 = a)) {i : Nat} (hi : i < k.entry.length) : endsTo k (endP k i).toNat = i + 1:=by
 have seg : ∀ i,i < k.entry.length → ∀ m : Nat,entryAt k i ≤ m → (m : Int) < endP k i → endsTo k m = endsTo k (entryAt k i).toNat:=by
  intro i hi m;have hb:=endP_bounds hr h0 hel hi;have hnn:=entry_nn hr h0 hel hi;induction m with
  | zero=>intro h1 _;rw [show (entryAt k i).toNat = 0 from by omega]
  | succ m ih =>
   intro h1 h2;by_cases e : entryAt k i = ((m + 1 : Nat) : Int)
   · rw [e];rfl
   · have h3:=ih (by omega) (by omega);have hp:=procTo_of hr hi (a:=m) (by omega) (by omega);have h4:=h9 m (by omega);rw [procN,hp,Int.toNat_natCast] at h4;have hs:=endsTo_step k m (by omega);rw [if_neg (fun h5=>by have:=h4.1 h5;omega)] at hs;omega
 have one : ∀ i,i < k.entry.length → endsTo k (endP k i).toNat = endsTo k (entryAt k i).toNat + 1:=by
  intro i hi;have hb:=endP_bounds hr h0 hel hi;have hnn:=entry_nn hr h0 hel hi;obtain ⟨m,hm⟩ : ∃ m : Nat,endP k i = (m : Int) + 1:=⟨(endP k i - 1).toNat,by omega⟩
  have hp:=procTo_of hr hi (a:=m) (by omega) (by omega);have h4:=h9 m (by omega);rw [procN,hp,Int.toNat_natCast] at h4;have hs:=endsTo_step k m (by omega);rw [if_pos (h4.2 (by omega))] at hs;rw [hm,show ((m : Int) + 1).toNat = m + 1 from by omega,hs,seg i hi m (by omega) (by omega)]
 induction i with
 | zero=>rw [one 0 hi,h0];simp [endsTo]
 | succ i ih =>
  rw [one (i + 1) hi];have h3:=ih (by omega);rw [endP_next hi] at h3;rw [h3]
end
theorem entries_eq {k : Cd} (hel : 1 ≤ k.procs.length) : entriesB k = (decide (k.entry.length = k.procs.length) && (decide (k.ins.length ≤ 1500) && ((List.range k.entry.length).all (riseB k) && (List.range k.ins.length).all (endB k)))):=by
 rw [Bool.eq_iff_iff];simp only [entriesB,Bool.and_eq_true,decide_eq_true_eq,List.all_eq_true,List.mem_range];constructor
 ·
  rintro ⟨h1,h2,h3,h4,h5⟩;have hel' : 1 ≤ k.entry.length:=by omega
  have hrow:=fun i hi=>rowB_parts (h5 i hi);have hr : ∀ i,i < k.entry.length → riseB k i = true:=by
   intro i hi;have hb:=hrow i hi;simp only [riseB,Bool.and_eq_true,decide_eq_true_eq];refine ⟨?_,by omega⟩;cases i with
   | zero=>rw [if_pos rfl];exact decide_eq_true h3
   | succ i =>
    have h6:=hrow i (by omega);rw [endP_next hi] at h6;rw [if_neg (by omega),Nat.add_sub_cancel];exact decide_eq_true h6.1
  refine ⟨h2,h1,hr,fun a ha=>?_⟩;obtain ⟨i,hi,hp,h6,h7⟩:=proc_in hr h3 hel' ha;rw [endB,hp,Int.toNat_natCast,beq_iff_eq];by_cases h9 : opAt k a = 9
  · rw [decide_eq_true h9];exact (decide_eq_true (ends_only hr h3 hel' (fun i hi=>(hrow i hi).2.2) h4 hi h6 h7 h9).symm).symm
  · rw [decide_eq_false h9];refine (decide_eq_false fun h8=>h9 ?_).symm;rw [← h8];exact (hrow i hi).2.2
 ·
  rintro ⟨h2,h1,hr,he⟩;have hel' : 1 ≤ k.entry.length:=by omega
  have h3 : entryAt k 0 = 0:=by
   have:=hr 0 (by omega);simp only [riseB,if_true,Bool.and_eq_true,decide_eq_true_eq] at this;exact this.1
  have h9 : ∀ a,a < k.ins.length → (opAt k a = 9 ↔ endP k (procN k a) - 1 = a):=by
   intro a ha;have:=he a ha;rw [endB,beq_iff_eq,decide_eq_decide] at this;exact this
  refine ⟨h1,h2,h3,?_,fun i hi=>?_⟩
  · have:=ends_count hr h3 hel' h9 (i:=k.entry.length - 1) (by omega);rw [endP_last (by omega),Int.toNat_natCast] at this;omega
  ·
   have hb:=endP_bounds hr h3 hel' hi;have hnn:=entry_nn hr h3 hel' hi;obtain ⟨m,hm⟩ : ∃ m : Nat,endP k i = (m : Int) + 1:=⟨(endP k i - 1).toNat,by omega⟩
   have hp:=procTo_of hr hi (a:=m) (by omega) (by omega);have h4:=h9 m (by omega);rw [procN,hp,Int.toNat_natCast] at h4;simp only [rowB,Bool.and_eq_true,Bool.not_eq_true',decide_eq_false_iff_not,decide_eq_true_eq];refine ⟨by omega,by omega,?_⟩;rw [hm,show ((m : Int) + 1 - 1) = (m : Int) from by omega];exact h4.2 (by omega)
theorem codeOk_eq (k : Cd) : codeOkI k = codeOkS k:=by
 unfold codeOkI codeOkS headsB;cases hn : namesB k
 · rfl
 ·
  have hel:=names_proc hn;rw [Bool.true_and,Bool.true_and,← entries_eq hel];cases he : entriesB k
  · rfl
  ·
   rw [Bool.true_and,Bool.true_and];have he2:=he;rw [entries_eq hel] at he2;simp only [Bool.and_eq_true,decide_eq_true_eq,List.all_eq_true,List.mem_range] at he2;obtain ⟨h2,h1,hr,_⟩:=he2;have h3:=(entriesB_parts he).2.2.1;have hel' : 1 ≤ k.entry.length:=by omega
   rw [Bool.eq_iff_iff];simp only [List.all_eq_true,List.mem_range];constructor
   · intro h a ha;obtain ⟨i,hi,hp,h6,h7⟩:=proc_in hr h3 hel' ha;have hnn:=entry_nn hr h3 hel' hi;have hh:=h i hi;simp only [partB,List.all_eq_true,List.mem_range] at hh;have:=hh (a - (entryAt k i).toNat) (by omega);rw [show (entryAt k i).toNat + (a - (entryAt k i).toNat) = a from by omega] at this;rw [insS,procN,hp,Int.toNat_natCast];exact this
   ·
    intro h i hi;have hb:=endP_bounds hr h3 hel' hi;have hnn:=entry_nn hr h3 hel' hi;simp only [partB,List.all_eq_true,List.mem_range];intro j hj;have ha : (entryAt k i).toNat + j < k.ins.length:=by omega
    have hp:=procTo_of hr hi (a:=(entryAt k i).toNat + j) (by omega) (by omega);have:=h _ ha;rw [insS,procN,hp,Int.toNat_natCast] at this;exact this
end Go.Proofs.YtkgoajnnkimkaaaGreat
namespace Go.Proofs.YtkgoajnnkimkaaaGreat
def ent (k : Cd) (p : Nat) : Nat:=(entryAt k p).toNat
def fin (k : Cd) (p : Nat) : Nat:=(endP k p).toNat
structure Right (k : Cd) : Prop where
 ins : k.ins.length ≤ 1500
 globals : k.globals.length ≤ 6
 locks : k.locks.length ≤ 6
 procs : k.procs.length ≤ 8
 main : mainS ∈ k.procs
 nodup : k.procs.Nodup
 entry : k.entry.length = k.procs.length
 ent_eq : ∀ p (h : p < k.entry.length),k.entry[p] = ent k p
 fin_eq : ∀ p,p < k.procs.length → endP k p = fin k p
 zero : ent k 0 = 0
 next : ∀ p,p + 1 < k.procs.length → fin k p = ent k (p + 1)
 last : fin k (k.procs.length - 1) = k.ins.length
 lt : ∀ p,p < k.procs.length → ent k p < fin k p ∧ fin k p ≤ k.ins.length
 proc : ∀ a,a < k.ins.length → procN k a < k.procs.length ∧ ent k (procN k a) ≤ a ∧ a < fin k (procN k a)
 op : ∀ a (h : a < k.ins.length),1 ≤ k.ins[a].op ∧ k.ins[a].op ≤ 9
 arg : ∀ a (h : a < k.ins.length),0 ≤ k.ins[a].arg ∧ k.ins[a].arg < argMost k k.ins[a].op
 to : ∀ a (h : a < k.ins.length),k.ins[a].op = 2 ∨ k.ins[a].op = 3 → (ent k (procN k a) : Int) ≤ k.ins[a].to ∧ k.ins[a].to < fin k (procN k a)
 stop : ∀ a (h : a < k.ins.length),k.ins[a].op = 9 ↔ a + 1 = fin k (procN k a)
theorem right_of {k : Cd} (h : codeOkI k = true) : Right k:=by
 have hS:=h;rw [codeOk_eq] at hS;unfold codeOkS headsB at hS;simp only [Bool.and_eq_true,decide_eq_true_eq,List.all_eq_true,List.mem_range] at hS;obtain ⟨⟨hn,he,hi,hr,hend⟩,hins⟩:=hS;obtain ⟨n1,n2,n3,_,_,n6,n7⟩:=namesB_parts hn;have hel : 1 ≤ k.entry.length:=by rw [he];exact names_proc hn
 have h0 : entryAt k 0 = 0:=by
  have:=hr 0 hel;simp only [riseB,if_true,Bool.and_eq_true,decide_eq_true_eq] at this;exact this.1
 have nn : ∀ p,p < k.entry.length → 0 ≤ entryAt k p:=fun p hp=>rise_nonneg (List.all_eq_true.2 fun i hi=>hr i (List.mem_range.1 hi)) p hp;have bd : ∀ p,p < k.entry.length → entryAt k p < endP k p ∧ endP k p ≤ k.ins.length:=fun p hp=>endP_bounds hr h0 hel hp;have entc : ∀ p,p < k.entry.length → (ent k p : Int) = entryAt k p:=fun p hp=>Int.toNat_of_nonneg (nn p hp);have finc : ∀ p,p < k.entry.length → (fin k p : Int) = endP k p:=fun p hp=>Int.toNat_of_nonneg (by have:=nn p hp;have:=bd p hp;omega);have pin : ∀ a,a < k.ins.length → procN k a < k.entry.length ∧ entryAt k (procN k a) ≤ a ∧ (a : Int) < endP k (procN k a):=fun a ha=>by
  obtain ⟨i,h1,h2,h3,h4⟩:=proc_in hr h0 hel ha;have e : procN k a = i:=by show (procI k a).toNat = i;omega
  rw [e];exact ⟨h1,h3,h4⟩
 simp only [areNamesB,Bool.and_eq_true,decide_eq_true_eq] at n1 n2 n3;have insf : ∀ a (ha : a < k.ins.length),insB k k.ins[a] (entryAt k (procN k a)) (endP k (procN k a)) = true:=fun a ha=>by
  have:=hins a ha;simpa [insS,insBat,ha] using this
 refine ⟨hi,n1.1,n2.1,n3.1,n7,by simpa [twiceB] using n6,he,?_,?_,?_,?_,?_,?_,?_,?_,?_,?_,?_⟩
 · intro p hp;rw [entc p hp,entryAt_eq k p hp]
 · intro p hp;exact (finc p (by omega)).symm
 · have:=entc 0 hel;omega
 · intro p hp;have h1:=finc p (by omega);have h2:=entc (p + 1) (by omega);rw [endP_next (by omega)] at h1;omega
 · have h1:=finc (k.procs.length - 1) (by omega);rw [endP_last (by omega)] at h1;omega
 · intro p hp;have h1:=finc p (by omega);have h2:=entc p (by omega);have h3:=bd p (by omega);omega
 · intro a ha;obtain ⟨p1,p2,p3⟩:=pin a ha;have h1:=finc _ p1;have h2:=entc _ p1;omega
 · intro a ha;have:=insf a ha;simp only [insB,Bool.and_eq_true,decide_eq_true_eq] at this;exact ⟨this.1.1,this.1.2.1⟩
 · intro a ha;have:=insf a ha;simp only [insB,Bool.and_eq_true,decide_eq_true_eq] at this;exact ⟨this.1.2.2.1,this.1.2.2.2⟩
 · intro a ha hop;have:=insf a ha;simp only [insB,Bool.and_eq_true,decide_eq_true_eq,if_pos hop] at this;obtain ⟨p1,p2,p3⟩:=pin a ha;have h1:=finc _ p1;have h2:=entc _ p1;have h3:=this.2.2;omega
 · intro a ha;have he2:=hend a ha;obtain ⟨p1,p2,p3⟩:=pin a ha;have h1:=finc _ p1;have e : endP k (procI k a).toNat = endP k (procN k a):=rfl;simp only [endB,e,opAt_nat k a ha,beq_iff_eq,decide_eq_decide] at he2;omega
end Go.Proofs.YtkgoajnnkimkaaaGreat
namespace Go.Proofs.YtkgoajnnkimkaaaGreat
open Classical
def opN (k : Cd) (a : Nat) : Int:=((k.ins[a]?).map Is.op).getD 0
def argN (k : Cd) (a : Nat) : Nat:=(((k.ins[a]?).map Is.arg).getD 0).toNat
def toN (k : Cd) (a : Nat) : Nat:=(((k.ins[a]?).map Is.to).getD 0).toNat
theorem opN_eq {k : Cd} {a : Nat} (h : a < k.ins.length) : k.ins[a].op = opN k a:=by simp [opN,h]
theorem argN_eq {k : Cd} (hr : Right k) {a : Nat} (h : a < k.ins.length) : k.ins[a].arg = argN k a:=by
 have:=hr.arg a h;simp [argN,h];omega
theorem toN_eq {k : Cd} (hr : Right k) {a : Nat} (h : a < k.ins.length) (ho : opN k a = 2 ∨ opN k a = 3) : k.ins[a].to = toN k a:=by
 have:=hr.to a h (by rw [opN_eq h];exact ho);simp [toN,h];omega
def nextL (k : Cd) (a : Nat) : List Nat :=
 if opN k a = 9 then [] else if opN k a = 3 then [toN k a] else if opN k a = 2 ∧ toN k a ≠ a + 1 then [a + 1,toN k a] else [a + 1]
theorem nextL_len (k : Cd) (a : Nat) : (nextL k a).length ≤ 2:=by
 unfold nextL
 repeat' split
 all_goals simp
theorem ent_mono {k : Cd} (hr : Right k) (p d : Nat) (h : p + d < k.procs.length) : ent k p ≤ ent k (p + d):=by
 induction d with
 | zero=>exact Nat.le_refl _
 | succ d ih =>
  have h1:=ih (by omega);have h2:=hr.next (p + d) (by omega);have h3:=hr.lt (p + d) (by omega);have e : p + (d + 1) = p + d + 1:=by omega
  rw [e];omega
theorem procN_of {k : Cd} (hr : Right k) {p a : Nat} (hp : p < k.procs.length) (h1 : ent k p ≤ a) (h2 : a < fin k p) : procN k a = p:=by
 have hl:=(hr.lt p hp).2;obtain ⟨q1,q2,q3⟩:=hr.proc a (by omega);generalize procN k a = q at *;rcases Nat.lt_trichotomy q p with h | h | h
 ·
  have:=ent_mono hr (q + 1) (p - (q + 1)) (by omega);rw [← hr.next q (by omega)] at this;have e : q + 1 + (p - (q + 1)) = p:=by omega
  rw [e] at this;omega
 · exact h
 ·
  have:=ent_mono hr (p + 1) (q - (p + 1)) (by omega);rw [← hr.next p (by omega)] at this;have e : p + 1 + (q - (p + 1)) = q:=by omega
  rw [e] at this;omega
theorem nextL_in {k : Cd} (hr : Right k) {a n : Nat} (ha : a < k.ins.length) (hn : n ∈ nextL k a) : n < k.ins.length ∧ procN k n = procN k a:=by
 obtain ⟨p1,p2,p3⟩:=hr.proc a ha;have hl:=(hr.lt _ p1).2;have hstop:=hr.stop a ha;rw [opN_eq ha] at hstop;have key : ent k (procN k a) ≤ n ∧ n < fin k (procN k a):=by
  unfold nextL at hn;split at hn
  · simp at hn
  ·
   rename_i h9;have h10 : ¬ a + 1 = fin k (procN k a):=fun h=>h9 (hstop.2 h);split at hn
   · rename_i h3;have ht:=hr.to a ha (by rw [opN_eq ha];exact .inr h3);rw [toN_eq hr ha (.inr h3)] at ht;simp at hn;subst hn;omega
   ·
    split at hn
    · rename_i h2;have ht:=hr.to a ha (by rw [opN_eq ha];exact .inl h2.1);rw [toN_eq hr ha (.inl h2.1)] at ht;simp at hn;rcases hn with rfl | rfl <;> omega
    · simp at hn;subst hn;omega
 exact ⟨by omega,procN_of hr p1 key.1 key.2⟩
theorem ent_lt {k : Cd} (hr : Right k) {p : Nat} (hp : p < k.procs.length) : ent k p < k.ins.length:=by
 have:=hr.lt p hp;omega
theorem procN_ent {k : Cd} (hr : Right k) {p : Nat} (hp : p < k.procs.length) : procN k (ent k p) = p:=procN_of hr hp (Nat.le_refl _) (hr.lt p hp).1
theorem procN_fin {k : Cd} (hr : Right k) {p : Nat} (hp : p < k.procs.length) : procN k (fin k p - 1) = p:=by
 have:=hr.lt p hp;exact procN_of hr hp (by omega) (by omega)
theorem comes_in {k : Cd} (hr : Right k) {a b : Nat} (ha : a < k.ins.length) (h : Comes (nextL k) a b) : b < k.ins.length ∧ procN k b = procN k a :=
 h.inv (P:=fun b=>b < k.ins.length ∧ procN k b = procN k a) ⟨ha,rfl⟩ fun x hx n hn=>by
  have:=nextL_in hr hx.1 hn;exact ⟨this.1,this.2.trans hx.2⟩
theorem reach_in {k : Cd} (hr : Right k) {a b : Nat} (ha : a < k.ins.length) (h : Reach (nextL k) a b) : b < k.ins.length ∧ procN k b = procN k a:=comes_in hr ha (.inr h)
def LiveP (k : Cd) (p a : Nat) : Prop:=Comes (nextL k) (ent k p) a
theorem live_in {k : Cd} (hr : Right k) {p a : Nat} (hp : p < k.procs.length) (h : LiveP k p a) : a < k.ins.length ∧ procN k a = p ∧ ent k p ≤ a ∧ a < fin k p:=by
 obtain ⟨h1,h2⟩:=comes_in hr (ent_lt hr hp) h;rw [procN_ent hr hp] at h2;obtain ⟨q1,q2,q3⟩:=hr.proc a h1;rw [h2] at q2 q3;exact ⟨h1,h2,q2,q3⟩
def LiveA (k : Cd) (a : Nat) : Prop:=LiveP k (procN k a) a
def OpsP (k : Cd) (o : Int) (p q : Nat) : Prop:=∃ a,LiveP k p a ∧ opN k a = o ∧ argN k a = q
theorem argN_lt {k : Cd} (hr : Right k) {a : Nat} (ha : a < k.ins.length) (ho : opN k a = 4 ∨ opN k a = 5) : argN k a < k.procs.length:=by
 have:=hr.arg a ha;rw [argN_eq hr ha,opN_eq ha,argMost,if_neg (by omega),if_pos ho] at this;omega
theorem argN_lt6 {k : Cd} (hr : Right k) {a : Nat} (ha : a < k.ins.length) (ho : opN k a = 6 ∨ opN k a = 7) : argN k a < k.locks.length:=by
 have:=hr.arg a ha;rw [argN_eq hr ha,opN_eq ha,argMost,if_neg (by omega),if_neg (by omega),if_pos ho] at this;omega
theorem ops_lt {k : Cd} (hr : Right k) {o : Int} {p q : Nat} (hp : p < k.procs.length) (ho : o = 4 ∨ o = 5) (h : OpsP k o p q) : q < k.procs.length:=by
 obtain ⟨a,h1,h2,rfl⟩:=h;exact argN_lt hr (live_in hr hp h1).1 (by rw [h2];exact ho)
noncomputable def callL (k : Cd) (p : Nat) : List Nat:=listN k.procs.length (OpsP k 4 p)
def FromP (k : Cd) (p q : Nat) : Prop:=Comes (callL k) p q
theorem from_lt {k : Cd} {p q : Nat} (hp : p < k.procs.length) (h : FromP k p q) : q < k.procs.length :=
 h.inv (P:=fun q=>q < k.procs.length) hp fun x _ n hn=>(mem_listN.1 hn).1
def mainN (k : Cd) : Nat:=k.procs.idxOf mainS
theorem mainN_lt {k : Cd} (hr : Right k) : mainN k < k.procs.length:=List.idxOf_lt_length_of_mem hr.main
noncomputable def startL (k : Cd) (r : Nat) : List Nat:=listN k.procs.length fun s=>∃ q,FromP k r q ∧ OpsP k 5 q s
def RootP (k : Cd) (r : Nat) : Prop:=Comes (startL k) (mainN k) r
theorem root_lt {k : Cd} (hr : Right k) {r : Nat} (h : RootP k r) : r < k.procs.length :=
 h.inv (P:=fun q=>q < k.procs.length) (mainN_lt hr) fun x _ n hn=>(mem_listN.1 hn).1
def UsedP (k : Cd) (q : Nat) : Prop:=∃ r,RootP k r ∧ FromP k r q
theorem used_lt {k : Cd} (hr : Right k) {q : Nat} (h : UsedP k q) : q < k.procs.length:=by
 obtain ⟨r,h1,h2⟩:=h;exact from_lt (root_lt hr h1) h2
def unionN (ss : List Nat) (which : List Nat) : Nat:=which.foldl (fun s i=>s ||| (ss[i]?).getD 0) 0
theorem testBit_foldl_or (ss : List Nat) (which : List Nat) (s j : Nat) : (which.foldl (fun s i=>s ||| (ss[i]?).getD 0) s).testBit j = true ↔ s.testBit j = true ∨ ∃ i ∈ which,((ss[i]?).getD 0).testBit j = true:=by
 induction which generalizing s with
 | nil=>simp
 | cons i r ih =>
  rw [List.foldl_cons,ih];simp only [Nat.testBit_or,Bool.or_eq_true,List.mem_cons];constructor
  ·
   rintro ((h | h) | ⟨x,h1,h2⟩)
   · exact .inl h
   · exact .inr ⟨i,.inl rfl,h⟩
   · exact .inr ⟨x,.inr h1,h2⟩
  ·
   rintro (h | ⟨x,rfl | h1,h2⟩)
   · exact .inl (.inl h)
   · exact .inl (.inr h2)
   · exact .inr ⟨x,h1,h2⟩
theorem testBit_unionN (ss which : List Nat) (j : Nat) : (unionN ss which).testBit j = true ↔ ∃ i ∈ which,((ss[i]?).getD 0).testBit j = true:=by
 rw [unionN,testBit_foldl_or];simp
end Go.Proofs.YtkgoajnnkimkaaaGreat
