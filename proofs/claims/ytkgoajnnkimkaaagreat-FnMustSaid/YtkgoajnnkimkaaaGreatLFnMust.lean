/- In drawn code what is held for sure may be held, wherever a thread may come, and where none comes nothing may be held: the law FnMust returns true. No condition beyond the given statement's own. -/
import Derived.Test.YtkgoajnnkimkaaaGreatH26
import Derived.Test.YtkgoajnnkimkaaaGreatMFnMusta
set_option linter.unusedSimpArgs false
set_option linter.unusedVariables false
set_option maxRecDepth 100000
set_option maxHeartbeats 16000000
namespace Go.Proofs.YtkgoajnnkimkaaaGreat.fnMust
open Go.ChangeShapes Go.WideShapes Go.ChangeAt Go.RowKit
theorem walk (b : List UInt8) (A : Option Addr) (c : Nat) (w : World) (h : Rd w w.heap.size A (bytesV b)) (hn : b.length ≤ 9223372036854775807) :
  Calls Tryz.prog 5 #[.slice A b.length c] w fun e w'=>e = .returned (.bool true) ∧ Below w.heap.size w w':=by
 by_cases hbig : 1048576 < b.length
 ·
  have HB:=Lib.hid (show Calls Tryz.prog 11 #[.slice A b.length c] w fun e w'=>e = .returned (.bool true) ∧ w' = w from by
   have:=big_any A c w hn
   rwa [decide_eq_true hbig] at this)
  clear hbig hn h
  go_enter Tryz.func5, Tryz.ntmps5
  go_wp2_with fail
  refine HB.out.mono ?_;rintro e w' ⟨rfl,hw⟩;obtain rfl : w = w':=hw.symm;go_wp2_with fail
  go_ret
  exact ⟨rfl,Below.refl _ _⟩
 have HB:=Lib.hid (show Calls Tryz.prog 11 #[.slice A b.length c] w fun e w'=>e = .returned (.bool false) ∧ w' = w from by
  have:=big_any A c w hn
  rwa [decide_eq_false hbig] at this)
 have hn' : b.length ≤ 1048576:=by omega
 have HD:=Lib.hid (fun V (hV : Below w.heap.size w V)=>drawCode_any b A c V (h.below hV).full hn');have HDP:=Lib.hid (fun V (hV : Below w.heap.size w V)=>(show Calls Tryz.prog 16 #[.slice A b.length c] V (NewNats V (placesF b)) from by
  have:=drawPlaces_any b A c V (h.below hV).full hn';have e : ((placesF b).map fun (n : Nat)=>iv (n : Int)) = nv (placesF b):=by simp [nv,natI]
  unfold NewNats;rw [placesF_len,← e];exact this))
 have hpl:=placesF_len b;generalize hpf : placesF b = pf at HDP hpl;have hok : codeOkI (codeD (newD b)) = true:=codeD_ok _;have hcb : CdB 1048576 (codeD (newD b)):=codeD_b _;clear hpf hbig hn hn' h;generalize codeD (newD b) = k at HD hok hcb;have hr:=right_of hok;have hins:=hr.ins;have hprc:=hr.procs;have hlk:=hr.locks;have HR:=Lib.hid hr;have HMU:=Lib.hid (fun z  W (hz : CodeAt W W.heap.size z k)=>(show Calls Tryz.prog 37 #[.agg #[.slice z.gA k.globals.length z.gc, .slice z.lA k.locks.length z.lc, .slice z.pA k.procs.length z.pc, .slice z.eA k.entry.length z.ec, .slice z.iA k.ins.length z.ic]] W (NewNats W (mustN k)) from by
  have:=mustOf_i z k W hz hcb (by omega)
  rwa [codeL_yes hok] at this))
 have HMS:=Lib.hid (fun z  W (hz : CodeAt W W.heap.size z k)=>(show Calls Tryz.prog 41 #[.agg #[.slice z.gA k.globals.length z.gc, .slice z.lA k.locks.length z.lc, .slice z.pA k.procs.length z.pc, .slice z.eA k.entry.length z.ec, .slice z.iA k.ins.length z.ic]] W (NewNats W (mustN k)) from by
  have:=mustOf_s z k W hz hcb (by omega)
  rwa [codeL_yes hok] at this))
 have HMY:=Lib.hid (fun z  W (hz : CodeAt W W.heap.size z k)=>(show Calls Tryz.prog 38 #[.agg #[.slice z.gA k.globals.length z.gc, .slice z.lA k.locks.length z.lc, .slice z.pA k.procs.length z.pc, .slice z.eA k.entry.length z.ec, .slice z.iA k.ins.length z.ic]] W (NewNats W (mayN k)) from by
  have:=mayOf_i z k W hz hcb (by omega)
  rwa [codeL_yes hok] at this))
 have HYS:=Lib.hid (fun z  W (hz : CodeAt W W.heap.size z k)=>(show Calls Tryz.prog 42 #[.agg #[.slice z.gA k.globals.length z.gc, .slice z.lA k.locks.length z.lc, .slice z.pA k.procs.length z.pc, .slice z.eA k.entry.length z.ec, .slice z.iA k.ins.length z.ic]] W (NewNats W (mayN k)) from by
  have:=mayOf_s z k W hz hcb (by omega)
  rwa [codeL_yes hok] at this))
 have HME:=Lib.hid (fun z  W (hz : CodeAt W W.heap.size z k)=>(show Calls Tryz.prog 39 #[.agg #[.slice z.gA k.globals.length z.gc, .slice z.lA k.locks.length z.lc, .slice z.pA k.procs.length z.pc, .slice z.eA k.entry.length z.ec, .slice z.iA k.ins.length z.ic]] W (NewNats W (listN k.ins.length (MetP k))) from by
  have:=metIn_i z k W hz hcb (by omega)
  rwa [codeL_yes hok] at this))
 have HES:=Lib.hid (fun z  W (hz : CodeAt W W.heap.size z k)=>(show Calls Tryz.prog 43 #[.agg #[.slice z.gA k.globals.length z.gc, .slice z.lA k.locks.length z.lc, .slice z.pA k.procs.length z.pc, .slice z.eA k.entry.length z.ec, .slice z.iA k.ins.length z.ic]] W (NewNats W (listN k.ins.length (MetP k))) from by
  have:=metIn_s z k W hz hcb (by omega)
  rwa [codeL_yes hok] at this))
 have HEN:=Lib.hid (fun z  W (hz : CodeAt W W.heap.size z k)=>(show Calls Tryz.prog 46 #[.agg #[.slice z.gA k.globals.length z.gc, .slice z.lA k.locks.length z.lc, .slice z.pA k.procs.length z.pc, .slice z.eA k.entry.length z.ec, .slice z.iA k.ins.length z.ic]] W (NewNats W (entN k (effN k))) from by
  have:=entriesOf_i z k W hz hcb (by omega)
  rwa [codeL_yes hok] at this))
 have HRS:=Lib.hid (fun z  W (hz : CodeAt W W.heap.size z k)=>(show Calls Tryz.prog 33 #[.agg #[.slice z.gA k.globals.length z.gc, .slice z.lA k.locks.length z.lc, .slice z.pA k.procs.length z.pc, .slice z.eA k.entry.length z.ec, .slice z.iA k.ins.length z.ic]] W (NewNats W (listN k.procs.length (RootP k))) from by
  have:=rootsOf_s z k W hz hcb (by omega)
  rwa [codeL_yes hok] at this))
 have HMA:=Lib.hid (fun z (a : Nat) (ha : a < k.ins.length) W (hz : CodeAt W W.heap.size z k)=>(show Calls Tryz.prog 44 #[.agg #[.slice z.gA k.globals.length z.gc, .slice z.lA k.locks.length z.lc, .slice z.pA k.procs.length z.pc, .slice z.eA k.entry.length z.ec, .slice z.iA k.ins.length z.ic],.int .i64 (a : Int)] W (fun e w'=>e = .returned (.int .i64 ((gt (mustN k) a : Nat) : Int)) ∧ Below W.heap.size W w') from by
  have:=mustAt_i z k (a : Int) W hz hcb (by omega)
  rwa [atI_yes hok ha] at this))
 have HYA:=Lib.hid (fun z (a : Nat) (ha : a < k.ins.length) W (hz : CodeAt W W.heap.size z k)=>(show Calls Tryz.prog 45 #[.agg #[.slice z.gA k.globals.length z.gc, .slice z.lA k.locks.length z.lc, .slice z.pA k.procs.length z.pc, .slice z.eA k.entry.length z.ec, .slice z.iA k.ins.length z.ic],.int .i64 (a : Int)] W (fun e w'=>e = .returned (.int .i64 ((gt (mayN k) a : Nat) : Int)) ∧ Below W.heap.size W w') from by
  have:=mayAt_i z k (a : Int) W hz hcb (by omega)
  rwa [atI_yes hok ha] at this))
 have hl5 : (mustN k).length = k.ins.length:=mustN_len k;have hl6 : (mayN k).length = k.ins.length:=mayN_len k;have hl10 : (entN k (effN k)).length = k.procs.length:=entN_length hr;have hl7 : (listN k.ins.length (MetP k)).length ≤ k.ins.length:=listN_len _ _;have hl11 : (listN k.procs.length (RootP k)).length ≤ k.procs.length:=listN_len _ _;have HMW:=Lib.hid (fun a n hn hm h1 h2=>must_within hr (a:=a) (n:=n) hn hm h1 h2);have HML:=Lib.hid (fun a h=>must_lt hr (a:=a) h);have HYN:=Lib.hid (fun a hm h2=>may_none (k:=k) (a:=a) hm h2);have HMG:=Lib.hid (fun a (h : a < (mustN k).length)=>gt_row h);have HYG:=Lib.hid (fun a (h : a < (mayN k).length)=>gt_row h);have HER:=Lib.hid (fun r h hl=>ent_root hr (r:=r) h hl);have HMR:=Lib.hid (fun r h hl=>must_root hr (r:=r) h hl);have HEM:=Lib.hid (fun r h=>met_ent hr (r:=r) h);have HMM:=Lib.hid (fun x=>mem_listN (n:=k.ins.length) (P:=MetP k) (i:=x));have HRM:=Lib.hid (fun x=>mem_listN (n:=k.procs.length) (P:=RootP k) (i:=x));generalize mustN k = mu at HMU HMS HMA HMW HML HMG HMR hl5;generalize mayN k = my at HMY HYS HYA HMW HYN HYG hl6;generalize listN k.ins.length (MetP k) = me at HME HES HEM HMM hl7;generalize entN k (effN k) = en at HEN HER hl10;generalize listN k.procs.length (RootP k) = rl at HRS HRM hl11;have hq5 : mu.length ≤ 1099511627776:=by omega
 have hq6 : my.length ≤ 1099511627776:=by omega
 have hq7 : me.length ≤ 1099511627776:=by omega
 have HL5:=Lib.hid hl5;have HL6:=Lib.hid hl6;have HL10:=Lib.hid hl10;clear hl5 hl6 hl10;clear hok hcb
 go_enter Tryz.func5, Tryz.ntmps5
 go_wp2_with fail
 refine HB.out.mono ?_;rintro e w' ⟨rfl,hw⟩;obtain rfl : w = w':=hw.symm;go_wp2_with fail
 refine (HD.out _ (Below.refl _ _)).mono ?_;rintro e w1 ⟨v,rfl,hk1,hb1⟩;have hk1':=(hk1.sub (Nat.le_refl _) high_low).full;go_wp2_with fail
 have hbx1:=codeBox w1 v k;generalize w1.alloc (.cells #[.slice v.gA k.globals.length v.gc, .slice v.lA k.locks.length v.lc, .slice v.pA k.procs.length v.pc, .slice v.eA k.entry.length v.ec, .slice v.iA k.ins.length v.ic] 28) = W1 at hbx1 ⊢;have hlow1:=below_trans' hb1 hbx1.1;have hkv:=kAt_of hbx1;have hck:=(hk1'.below hbx1.1).full;clear hk1 hk1' hb1 hbx1;generalize w1.heap.size = gk at hkv ⊢;refine (HD.out W1 hlow1).mono ?_;rintro e w2 ⟨u,rfl,hk2,hb2⟩;have hk2':=(hk2.sub (Nat.le_refl _) high_low).full;obtain ⟨k0,k1,k2,k3,k4⟩:=hkv.to hb2;have hgk:=World.block_lt_of_cell? _ _ k0;have hgn : ¬ gk = w2.heap.size:=Nat.ne_of_lt hgk;go_wp2_with fail
 clear k0 k1 k2 k3 k4 hgk hgn;have hbx2:=codeBox w2 u k;generalize w2.alloc (.cells #[.slice u.gA k.globals.length u.gc, .slice u.lA k.locks.length u.lc, .slice u.pA k.procs.length u.pc, .slice u.eA k.entry.length u.ec, .slice u.iA k.ins.length u.ic] 28) = W2 at hbx2 ⊢;have hb12:=below_trans' hb2 hbx2.1;have hlb : LB w k gk w2.heap.size v u W2:=⟨below_trans' hlow1 hb12,hkv.to hb12,kAt_of hbx2,(hck.below hb12).full,(hk2'.below hbx2.1).full⟩
 clear hk2 hk2' hb2 hbx2 hb12 hlow1 hkv hck HB HD;generalize w2.heap.size = gs at hlb ⊢;have HLB:=Lib.hid hlb;clear hlb;refine (HMU.out v _ HLB.out.ck).mono ?_;rintro e w5 ⟨A5,c5,rfl,ho5,hb5⟩;have HS5:=Lib.hid ((HLB.out.to hb5).ls.add (own_rd ho5));clear ho5 hb5 HLB;obtain ⟨k0,k1,k2,k3,k4⟩:=HS5.out.lb.kk;go_wp2_with fail
 refine (HMY.out v _ HS5.out.lb.ck).mono ?_;rintro e w6 ⟨A6,c6,rfl,ho6,hb6⟩;have HS6:=Lib.hid ((HS5.out.to hb6).add (own_rd ho6));clear ho6 hb6 k0 k1 k2 k3 k4 HS5;obtain ⟨k0,k1,k2,k3,k4⟩:=HS6.out.lb.kk;go_wp2_with fail
 refine (HME.out v _ HS6.out.lb.ck).mono ?_;rintro e w7 ⟨A7,c7,rfl,ho7,hb7⟩;have HS7:=Lib.hid ((HS6.out.to hb7).add (own_rd ho7));clear ho7 hb7 k0 k1 k2 k3 k4 HS6;obtain ⟨s0,s1,s2,s3,s4⟩:=HS7.out.lb.ks;have h6 : (k.locks.length : Int) ≤ 6:=by omega
 have h0 : (0 : Int) ≤ (k.locks.length : Int):=by omega
 have hgs:=World.block_lt_of_cell? _ _ s1;have hgn : ¬ gs = w7.heap.size:=Nat.ne_of_lt hgs;have HSF:=Lib.hid (setOf_first w7 k.locks.length hlk);have hba:=below_alloc0 w7 (.cells #[.int .i64 0,.int .i64 1,.int .i64 2,.int .i64 3,.int .i64 4,.int .i64 5] 3);go_wp2_with fail
 clear s0 s1 s2 s3 s4 h6 h0 hgs hgn;refine HSF.out.mono ?_;have HS8:=Lib.hid (HS7.out.to hba);clear hba HS7;generalize w7.alloc (.cells #[.int .i64 0,.int .i64 1,.int .i64 2,.int .i64 3,.int .i64 4,.int .i64 5] 3) = W7 at HS8 ⊢;rintro e w8 ⟨rfl,rfl⟩;clear HSF;obtain ⟨s0,s1,s2,s3,s4⟩:=HS8.out.lb.ks;go_wp2_with fail
 refine (HMS.out u _ HS8.out.lb.cs).mono ?_;rintro e w9 ⟨A9,c9,rfl,ho9,hb9⟩;have r9:=own_rd ho9;have HS9:=Lib.hid (HS8.out.to hb9);clear ho9 hb9 s0 s1 s2 s3 s4 HS8;go_wp2_with fail
 refine (sameInts_same A5 A9 c5 c9 _ _ (HS9.out.rd (A5,mu) (by simp)) r9 hq5).mono ?_;rintro e w10 ⟨rfl,hb10⟩;have HS10:=Lib.hid (HS9.out.to hb10);clear hb10 HS9 r9;obtain ⟨s0,s1,s2,s3,s4⟩:=HS10.out.lb.ks;go_wp2_with fail
 refine (HYS.out u _ HS10.out.lb.cs).mono ?_;rintro e w11 ⟨A11,c11,rfl,ho11,hb11⟩;have r11:=own_rd ho11;have HS11:=Lib.hid (HS10.out.to hb11);clear ho11 hb11 s0 s1 s2 s3 s4 HS10;go_wp2_with fail
 refine (sameInts_same A6 A11 c6 c11 _ _ (HS11.out.rd (A6,my) (by simp)) r11 hq6).mono ?_;rintro e w12 ⟨rfl,hb12⟩;have HS12:=Lib.hid (HS11.out.to hb12);clear hb12 HS11 r11;obtain ⟨s0,s1,s2,s3,s4⟩:=HS12.out.lb.ks;go_wp2_with fail
 refine (HES.out u _ HS12.out.lb.cs).mono ?_;rintro e w13 ⟨A13,c13,rfl,ho13,hb13⟩;have r13:=own_rd ho13;have HS13:=Lib.hid (HS12.out.to hb13);clear ho13 hb13 s0 s1 s2 s3 s4 HS12;go_wp2_with fail
 refine (sameInts_same A7 A13 c7 c13 _ _ (HS13.out.rd (A7,me) (by simp)) r13 hq7).mono ?_;rintro e w14 ⟨rfl,hb14⟩;have HS14:=Lib.hid (HS13.out.to hb14);clear hb14 HS13 r13;go_wp2_with fail
 go_loopg [9] k.ins.length (fun l i wr=>∃ a : Nat,a ≤ k.ins.length ∧ l = k.ins.length - a ∧ i = .int .i64 a ∧ LS w k gk gs v u [(A7,me),(A6,my),(A5,mu)] wr)
 case atStart=>exact ⟨0,by omega,by omega,rfl,HS14.out⟩
 case round =>
  clear HS14;obtain ⟨a,ha,rfl,rfl,hs4⟩:=hrel;have HL9:=Lib.hid hs4;clear hs4;obtain ⟨s0,s1,s2,s3,s4⟩:=HL9.out.lb.ks;by_cases hal : a < k.ins.length
  ·
   have ha1 : a < mu.length:=by rw [HL5.out];exact hal
   have ha2 : a < my.length:=by rw [HL6.out];exact hal
   have z0 : (0 : Int) ≤ (a : Int):=by omega
   have z1 : (a : Int) < (mu.length : Int):=by omega
   have z2 : (a : Int) < (my.length : Int):=by omega
   have z3 : (a : Int) < (k.ins.length : Int):=by omega
   obtain ⟨ad5,rfl⟩:=HL9.out.some_ (A:=A5) (xs:=mu) (by simp) (by omega);obtain ⟨ad6,rfl⟩:=HL9.out.some_ (A:=A6) (xs:=my) (by simp) (by omega);have e3 : (((mu[a] : Nat) : Int) != ((mu[a] : Nat) : Int)) = false:=by simp
   have e4 : (((my[a] : Nat) : Int) != ((my[a] : Nat) : Int)) = false:=by simp
   go_wp2_with fail
   clear s0 s1 s2 s3 s4;refine wp_region_held_drew (S:=fun w'=>LS w k gk gs v u [(A7,me),(some ad6,my),(some ad5,mu)] w') (by kernel_rfl) (HL9.out.drew) (fun hHeld=>?_);first | refine hs_ 0 ?_ | (refine hr_ 0 ?_ ?_ ?_;rotate_left;(intro W hW;obtain ⟨k0q,k1q,k2q,k3q,k4q⟩:=hW.lb.kk;go_simp;try with_reducible rfl))
   first | refine hs_ 1 ?_ | (refine hr_ 1 ?_ ?_ ?_;rotate_left;(intro W hW;go_simp;try with_reducible rfl))
   first | refine hs_ 3 ?_ | (refine hr_ 3 ?_ ?_ ?_;rotate_left;(intro W hW;go_simp;try with_reducible rfl))
   first | refine hs_ 4 ?_ | (refine hr_ 4 ?_ ?_ ?_;rotate_left;(intro W hW;go_simp;try with_reducible rfl))
   first | refine hs_ 5 ?_ | (refine hr_ 5 ?_ ?_ ?_;rotate_left;(intro W hW;go_simp;try with_reducible rfl))
   first | refine hs_ 6 ?_ | (refine hr_ 6 ?_ ?_ ?_;rotate_left;(intro W hW;have n1:=hW.at_ (ad:=ad5) (by simp) ha1;have n2:=hW.at_ (ad:=ad6) (by simp) ha2;go_simp;try with_reducible rfl))
   refine ho_ 2 fun K hK=>?_;go_simp
   refine (HMA.out v a hal _ hHeld.lb.ck).mono ?_;rintro e wq1 ⟨rfl,hb1⟩
   replace hHeld:=hHeld.to hb1
   clear hb1;rw [HMG.out a ha1];refine hk_ hK (hHeld) fun hHeld=>?_;clear hK K;first | refine hs_ 7 ?_ | (refine hr_ 7 ?_ ?_ ?_;rotate_left;(intro W hW;go_simp;try with_reducible rfl))
   first | refine hs_ 8 ?_ | (refine hr_ 8 ?_ ?_ ?_;rotate_left;(intro W hW;go_simp;try with_reducible rfl))
   first | refine hs_ 9 ?_ | (refine hr_ 9 ?_ ?_ ?_;rotate_left;(intro W hW;obtain ⟨k0q,k1q,k2q,k3q,k4q⟩:=hW.lb.kk;go_simp;try with_reducible rfl))
   first | refine hs_ 10 ?_ | (refine hr_ 10 ?_ ?_ ?_;rotate_left;(intro W hW;go_simp;try with_reducible rfl))
   first | refine hs_ 12 ?_ | (refine hr_ 12 ?_ ?_ ?_;rotate_left;(intro W hW;go_simp;try with_reducible rfl))
   first | refine hs_ 13 ?_ | (refine hr_ 13 ?_ ?_ ?_;rotate_left;(intro W hW;go_simp;try with_reducible rfl))
   first | refine hs_ 14 ?_ | (refine hr_ 14 ?_ ?_ ?_;rotate_left;(intro W hW;go_simp;try with_reducible rfl))
   first | refine hs_ 15 ?_ | (refine hr_ 15 ?_ ?_ ?_;rotate_left;(intro W hW;have n1:=hW.at_ (ad:=ad5) (by simp) ha1;have n2:=hW.at_ (ad:=ad6) (by simp) ha2;go_simp;try with_reducible rfl))
   refine ho_ 11 fun K hK=>?_;go_simp
   refine (HYA.out v a hal _ hHeld.lb.ck).mono ?_;rintro e wq2 ⟨rfl,hb2⟩
   replace hHeld:=hHeld.to hb2
   clear hb2;rw [HYG.out a ha2];refine hk_ hK (hHeld) fun hHeld=>?_;clear hK K;first | refine hs_ 16 ?_ | (refine hr_ 16 ?_ ?_ ?_;rotate_left;(intro W hW;go_simp;try with_reducible rfl))
   first | refine hs_ 17 ?_ | (refine hr_ 17 ?_ ?_ ?_;rotate_left;(intro W hW;go_simp;try with_reducible rfl))
   refine wpAnyH_done (by kernel_rfl) ?_ _;have HL14:=Lib.hid hHeld;clear hHeld HL9;go_wp2_with fail
   by_cases hme : a ∈ me
   ·
    have hmp:=((HMM.out a).1 hme).2;refine wp_region_held_drew (S:=fun w'=>LS w k gk gs v u [(A7,me),(some ad6,my),(some ad5,mu)] w') (by kernel_rfl) (HL14.out.drew) (fun hHeld=>?_);first | refine hs_ 0 ?_ | (refine hr_ 0 ?_ ?_ ?_;rotate_left;(intro W hW;go_simp;try with_reducible rfl))
    first | refine hs_ 1 ?_ | (refine hr_ 1 ?_ ?_ ?_;rotate_left;(intro W hW;go_simp;try with_reducible rfl))
    refine ho_ 2 fun K hK=>?_;go_simp
    refine (hasInt_yes A7 c7 _ a _ (hHeld.rd (A7,me) (by simp)) hq7 hme).mono ?_;rintro e wq3 ⟨rfl,hb3⟩
    replace hHeld:=hHeld.to hb3
    clear hb3;refine hk_ hK (hHeld) fun hHeld=>?_;clear hK K;first | refine hs_ 3 ?_ | (refine hr_ 3 ?_ ?_ ?_;rotate_left;(intro W hW;go_simp;try with_reducible rfl))
    first | refine hs_ 4 ?_ | (refine hr_ 4 ?_ ?_ ?_;rotate_left;(intro W hW;go_simp;try with_reducible rfl))
    first | refine hs_ 5 ?_ | (refine hr_ 5 ?_ ?_ ?_;rotate_left;(intro W hW;go_simp;try with_reducible rfl))
    first | refine hs_ 6 ?_ | (refine hr_ 6 ?_ ?_ ?_;rotate_left;(intro W hW;go_simp;try with_reducible rfl))
    first | refine hs_ 7 ?_ | (refine hr_ 7 ?_ ?_ ?_;rotate_left;(intro W hW;have n1:=hW.at_ (ad:=ad5) (by simp) ha1;have n2:=hW.at_ (ad:=ad6) (by simp) ha2;go_simp;try with_reducible rfl))
    first | refine hs_ 8 ?_ | (refine hr_ 8 ?_ ?_ ?_;rotate_left;(intro W hW;go_simp;try with_reducible rfl))
    first | refine hs_ 10 ?_ | (refine hr_ 10 ?_ ?_ ?_;rotate_left;(intro W hW;go_simp;try with_reducible rfl))
    first | refine hs_ 11 ?_ | (refine hr_ 11 ?_ ?_ ?_;rotate_left;(intro W hW;go_simp;try with_reducible rfl))
    first | refine hs_ 12 ?_ | (refine hr_ 12 ?_ ?_ ?_;rotate_left;(intro W hW;go_simp;try with_reducible rfl))
    first | refine hs_ 13 ?_ | (refine hr_ 13 ?_ ?_ ?_;rotate_left;(intro W hW;have n1:=hW.at_ (ad:=ad5) (by simp) ha1;have n2:=hW.at_ (ad:=ad6) (by simp) ha2;go_simp;try with_reducible rfl))
    refine ho_ 9 fun K hK=>?_;go_simp
    refine (both_i (mu[a] : Int) ((locksN k.locks.length : Nat) : Int) _).mono ?_;rintro e wq4 ⟨rfl,rfl⟩;rw [both_nat (HML.out a ha1) (locksN_lt hlk)];refine hk_ hK (hHeld) fun hHeld=>?_;clear hK K;refine ho_ 14 fun K hK=>?_;go_simp
    refine (within_i ((mu[a] &&& locksN k.locks.length : Nat) : Int) (my[a] : Int) _).mono ?_;rintro e wq5 ⟨rfl,rfl⟩;rw [HMW.out a _ hlk hmp ha1 ha2];refine hk_ hK (hHeld) fun hHeld=>?_;clear hK K;first | refine hs_ 15 ?_ | (refine hr_ 15 ?_ ?_ ?_;rotate_left;(intro W hW;go_simp;try with_reducible rfl))
    first | refine hs_ 16 ?_ | (refine hr_ 16 ?_ ?_ ?_;rotate_left;(intro W hW;go_simp;try with_reducible rfl))
    first | refine hs_ 17 ?_ | (refine hr_ 17 ?_ ?_ ?_;rotate_left;(intro W hW;go_simp;try with_reducible rfl))
    first | refine hs_ 18 ?_ | (refine hr_ 18 ?_ ?_ ?_;rotate_left;(intro W hW;go_simp;try with_reducible rfl))
    first | refine hs_ 19 ?_ | (refine hr_ 19 ?_ ?_ ?_;rotate_left;(intro W hW;go_simp;try with_reducible rfl))
    refine ho_ 20 fun K hK=>?_;go_simp
    refine (hasInt_yes A7 c7 _ a _ (hHeld.rd (A7,me) (by simp)) hq7 hme).mono ?_;rintro e wq6 ⟨rfl,hb6⟩
    replace hHeld:=hHeld.to hb6
    clear hb6;refine hk_ hK (hHeld) fun hHeld=>?_;clear hK K;first | refine hs_ 21 ?_ | (refine hr_ 21 ?_ ?_ ?_;rotate_left;(intro W hW;go_simp;try with_reducible rfl))
    first | refine hs_ 22 ?_ | (refine hr_ 22 ?_ ?_ ?_;rotate_left;(intro W hW;go_simp;try with_reducible rfl))
    first | refine hs_ 23 ?_ | (refine hr_ 23 ?_ ?_ ?_;rotate_left;(intro W hW;go_simp;try with_reducible rfl))
    first | refine hs_ 24 ?_ | (refine hr_ 24 ?_ ?_ ?_;rotate_left;(intro W hW;go_simp;try with_reducible rfl))
    first | refine hs_ 25 ?_ | (refine hr_ 25 ?_ ?_ ?_;rotate_left;(intro W hW;go_simp;try with_reducible rfl))
    first | refine hs_ 26 ?_ | (refine hr_ 26 ?_ ?_ ?_;rotate_left;(intro W hW;have n1:=hW.at_ (ad:=ad5) (by simp) ha1;have n2:=hW.at_ (ad:=ad6) (by simp) ha2;go_simp;try with_reducible rfl))
    first | refine hs_ 27 ?_ | (refine hr_ 27 ?_ ?_ ?_;rotate_left;(intro W hW;go_simp;try with_reducible rfl))
    first | refine hs_ 28 ?_ | (refine hr_ 28 ?_ ?_ ?_;rotate_left;(intro W hW;go_simp;try with_reducible rfl))
    first | refine hs_ 29 ?_ | (refine hr_ 29 ?_ ?_ ?_;rotate_left;(intro W hW;go_simp;try with_reducible rfl))
    refine wpAnyH_done (by kernel_rfl) ?_ _;have HL16:=Lib.hid hHeld;clear hHeld;go_wp2_with fail
    go_roundg (k.ins.length - (a + 1))
    case measure=>omega
    case rel=>exact ⟨a + 1,by omega,rfl,by go_num,HL16.out⟩
   ·
    have HYZ:=Lib.hid (HYN.out a (fun h=>hme ((HMM.out a).2 ⟨hal,h⟩)) ha2);refine wp_region_held_drew (S:=fun w'=>LS w k gk gs v u [(A7,me),(some ad6,my),(some ad5,mu)] w') (by kernel_rfl) (HL14.out.drew) (fun hHeld=>?_);first | refine hs_ 0 ?_ | (refine hr_ 0 ?_ ?_ ?_;rotate_left;(intro W hW;go_simp;try with_reducible rfl))
    first | refine hs_ 1 ?_ | (refine hr_ 1 ?_ ?_ ?_;rotate_left;(intro W hW;go_simp;try with_reducible rfl))
    refine ho_ 2 fun K hK=>?_;go_simp
    refine (hasInt_no A7 c7 _ a _ (hHeld.rd (A7,me) (by simp)) hq7 hme).mono ?_;rintro e wq7 ⟨rfl,hb7⟩
    replace hHeld:=hHeld.to hb7
    clear hb7;refine hk_ hK (hHeld) fun hHeld=>?_;clear hK K;first | refine hs_ 3 ?_ | (refine hr_ 3 ?_ ?_ ?_;rotate_left;(intro W hW;go_simp;try with_reducible rfl))
    first | refine hs_ 4 ?_ | (refine hr_ 4 ?_ ?_ ?_;rotate_left;(intro W hW;go_simp;try with_reducible rfl))
    first | refine hs_ 5 ?_ | (refine hr_ 5 ?_ ?_ ?_;rotate_left;(intro W hW;go_simp;try with_reducible rfl))
    first | refine hs_ 6 ?_ | (refine hr_ 6 ?_ ?_ ?_;rotate_left;(intro W hW;go_simp;try with_reducible rfl))
    first | refine hs_ 7 ?_ | (refine hr_ 7 ?_ ?_ ?_;rotate_left;(intro W hW;have n1:=hW.at_ (ad:=ad5) (by simp) ha1;have n2:=hW.at_ (ad:=ad6) (by simp) ha2;rw [HYZ.out] at n2;go_simp;try with_reducible rfl))
    first | refine hs_ 8 ?_ | (refine hr_ 8 ?_ ?_ ?_;rotate_left;(intro W hW;go_simp;try with_reducible rfl))
    first | refine hs_ 9 ?_ | (refine hr_ 9 ?_ ?_ ?_;rotate_left;(intro W hW;go_simp;try with_reducible rfl))
    first | refine hs_ 10 ?_ | (refine hr_ 10 ?_ ?_ ?_;rotate_left;(intro W hW;go_simp;try with_reducible rfl))
    first | refine hs_ 11 ?_ | (refine hr_ 11 ?_ ?_ ?_;rotate_left;(intro W hW;go_simp;try with_reducible rfl))
    first | refine hs_ 12 ?_ | (refine hr_ 12 ?_ ?_ ?_;rotate_left;(intro W hW;go_simp;try with_reducible rfl))
    first | refine hs_ 13 ?_ | (refine hr_ 13 ?_ ?_ ?_;rotate_left;(intro W hW;have n1:=hW.at_ (ad:=ad5) (by simp) ha1;have n2:=hW.at_ (ad:=ad6) (by simp) ha2;rw [HYZ.out] at n2;go_simp;try with_reducible rfl))
    first | refine hs_ 14 ?_ | (refine hr_ 14 ?_ ?_ ?_;rotate_left;(intro W hW;go_simp;try with_reducible rfl))
    first | refine hs_ 15 ?_ | (refine hr_ 15 ?_ ?_ ?_;rotate_left;(intro W hW;go_simp;try with_reducible rfl))
    first | refine hs_ 16 ?_ | (refine hr_ 16 ?_ ?_ ?_;rotate_left;(intro W hW;go_simp;try with_reducible rfl))
    first | refine hs_ 17 ?_ | (refine hr_ 17 ?_ ?_ ?_;rotate_left;(intro W hW;go_simp;try with_reducible rfl))
    first | refine hs_ 18 ?_ | (refine hr_ 18 ?_ ?_ ?_;rotate_left;(intro W hW;go_simp;try with_reducible rfl))
    first | refine hs_ 19 ?_ | (refine hr_ 19 ?_ ?_ ?_;rotate_left;(intro W hW;go_simp;try with_reducible rfl))
    refine ho_ 20 fun K hK=>?_;go_simp
    refine (hasInt_no A7 c7 _ a _ (hHeld.rd (A7,me) (by simp)) hq7 hme).mono ?_;rintro e wq8 ⟨rfl,hb8⟩
    replace hHeld:=hHeld.to hb8
    clear hb8;refine hk_ hK (hHeld) fun hHeld=>?_;clear hK K;first | refine hs_ 21 ?_ | (refine hr_ 21 ?_ ?_ ?_;rotate_left;(intro W hW;go_simp;try with_reducible rfl))
    first | refine hs_ 22 ?_ | (refine hr_ 22 ?_ ?_ ?_;rotate_left;(intro W hW;go_simp;try with_reducible rfl))
    first | refine hs_ 23 ?_ | (refine hr_ 23 ?_ ?_ ?_;rotate_left;(intro W hW;go_simp;try with_reducible rfl))
    first | refine hs_ 24 ?_ | (refine hr_ 24 ?_ ?_ ?_;rotate_left;(intro W hW;go_simp;try with_reducible rfl))
    first | refine hs_ 25 ?_ | (refine hr_ 25 ?_ ?_ ?_;rotate_left;(intro W hW;go_simp;try with_reducible rfl))
    first | refine hs_ 26 ?_ | (refine hr_ 26 ?_ ?_ ?_;rotate_left;(intro W hW;have n1:=hW.at_ (ad:=ad5) (by simp) ha1;have n2:=hW.at_ (ad:=ad6) (by simp) ha2;rw [HYZ.out] at n2;go_simp;try with_reducible rfl))
    first | refine hs_ 27 ?_ | (refine hr_ 27 ?_ ?_ ?_;rotate_left;(intro W hW;go_simp;try with_reducible rfl))
    first | refine hs_ 28 ?_ | (refine hr_ 28 ?_ ?_ ?_;rotate_left;(intro W hW;go_simp;try with_reducible rfl))
    first | refine hs_ 29 ?_ | (refine hr_ 29 ?_ ?_ ?_;rotate_left;(intro W hW;go_simp;try with_reducible rfl))
    refine wpAnyH_done (by kernel_rfl) ?_ _;have HL16:=Lib.hid hHeld;clear hHeld;go_wp2_with fail
    go_roundg (k.ins.length - (a + 1))
    case measure=>omega
    case rel=>exact ⟨a + 1,by omega,rfl,by go_num,HL16.out⟩
  ·
   obtain rfl : a = k.ins.length:=by omega
   clear s0 s1 s2 s3 s4;have HE9:=Lib.hid HL9.out;obtain ⟨s0,s1,s2,s3,s4⟩:=HE9.out.lb.ks;obtain ⟨k0,k1,k2,k3,k4⟩:=HE9.out.lb.kk;clear HL9;go_wp2_with fail
   refine (HEN.out v _ HE9.out.lb.ck).mono ?_;rintro e w5 ⟨A10,c10,rfl,ho5,hb5⟩;have HS5:=Lib.hid ((HE9.out.to hb5).add (own_rd ho5));clear ho5 hb5 s0 s1 s2 s3 s4 k0 k1 k2 k3 k4 HE9;obtain ⟨s0,s1,s2,s3,s4⟩:=HS5.out.lb.ks;go_wp2_with fail
   refine (HRS.out u _ HS5.out.lb.cs).mono ?_;rintro e w6 ⟨A11,c11,rfl,ho6,hb6⟩;have HS6:=Lib.hid ((HS5.out.to hb6).add (own_rd ho6));clear ho6 hb6 s0 s1 s2 s3 s4 HS5;go_wp2_with fail
   go_loopg [12] rl.length (fun l i wr=>∃ j : Nat,j ≤ rl.length ∧ l = rl.length - j ∧ i = .int .i64 j ∧ LS w k gk gs v u [(A11,rl),(A10,en),(A7,me),(A6,my),(A5,mu)] wr)
   case atStart=>exact ⟨0,by omega,by omega,rfl,HS6.out⟩
   case round =>
    clear HS6;obtain ⟨j,hj,rfl,rfl,hs4⟩:=hrel;have HL9:=Lib.hid hs4;clear hs4;by_cases hjl : j < rl.length
    ·
     have hop:=(HRM.out _).1 (List.getElem_mem hjl);have hnl:=hop.1;have hem:=HEM.out _ hop.2;have hee : ent k rl[j] < k.ins.length:=((HMM.out _).1 hem).1;have hr10 : rl[j] < en.length:=by rw [HL10.out];exact hnl
     have he5 : ent k rl[j] < mu.length:=by rw [HL5.out];exact hee
     have HER:=Lib.hid (HER.out rl[j] hop.2 hr10);have HMR:=Lib.hid (HMR.out rl[j] hop.2 he5);have hel:=HR.out.entry;have z1 : (j : Int) < (rl.length : Int):=by omega
     have z2 : (0 : Int) ≤ (j : Int):=by omega
     have z3 : ((rl[j] : Nat) : Int) < (en.length : Int):=by omega
     have z4 : (0 : Int) ≤ ((rl[j] : Nat) : Int):=by omega
     have z5 : ((rl[j] : Nat) : Int) < (k.entry.length : Int):=by omega
     have z6 : ((ent k rl[j] : Nat) : Int) < (mu.length : Int):=by omega
     have z7 : (0 : Int) ≤ ((ent k rl[j] : Nat) : Int):=by omega
     clear hop hel;obtain ⟨ad11,rfl⟩:=HL9.out.some_ (A:=A11) (xs:=rl) (by simp) (by omega);obtain ⟨ad10,rfl⟩:=HL9.out.some_ (A:=A10) (xs:=en) (by simp) (by omega);obtain ⟨ad5,rfl⟩:=HL9.out.some_ (A:=A5) (xs:=mu) (by simp) (by omega);obtain ⟨ade,eE,_,hce⟩:=HL9.out.lb.cs.e rl[j] (.int .i64 ((ent k rl[j] : Nat) : Int)) (ent_cell HR.out hnl);have HEE:=Lib.hid eE;have HCE:=Lib.hid (fun W (h : LB w k gk gs v u W)=>(show W.cell? (ade.add rl[j]) = some (.int .i64 ((ent k rl[j] : Nat) : Int)) from by
      obtain ⟨ad',e,_,hc⟩:=h.cs.e rl[j] (.int .i64 ((ent k rl[j] : Nat) : Int)) (ent_cell HR.out hnl);rw [HEE.out] at e;injection e with e;rw [e];exact hc))
     clear eE hce;go_wp2_with fail
     refine wp_region_held_drew (S:=fun w'=>LS w k gk gs v u [(some ad11,rl),(some ad10,en),(A7,me),(A6,my),(some ad5,mu)] w') (by kernel_rfl) (HL9.out.drew) (fun hHeld=>?_);first | refine hs_ 0 ?_ | (refine hr_ 0 ?_ ?_ ?_;rotate_left;(intro W hW;go_simp;try with_reducible rfl))
     first | refine hs_ 1 ?_ | (refine hr_ 1 ?_ ?_ ?_;rotate_left;(intro W hW;go_simp;try with_reducible rfl))
     first | refine hs_ 2 ?_ | (refine hr_ 2 ?_ ?_ ?_;rotate_left;(intro W hW;go_simp;try with_reducible rfl))
     first | refine hs_ 3 ?_ | (refine hr_ 3 ?_ ?_ ?_;rotate_left;(intro W hW;go_simp;try with_reducible rfl))
     first | refine hs_ 4 ?_ | (refine hr_ 4 ?_ ?_ ?_;rotate_left;(intro W hW;obtain ⟨s0q,s1q,s2q,s3q,s4q⟩:=hW.lb.ks;rw [HEE.out] at s3q;have ceq:=HCE.out _ hW.lb;have n1:=hW.at_ (ad:=ad11) (by simp) hjl;have n2:=hW.at_ (ad:=ad10) (by simp) hr10;rw [HER.out] at n2;have n3:=hW.at_ (ad:=ad5) (by simp) he5;rw [HMR.out] at n3;go_simp;try with_reducible rfl))
     first | refine hs_ 5 ?_ | (refine hr_ 5 ?_ ?_ ?_;rotate_left;(intro W hW;go_simp;try with_reducible rfl))
     first | refine hs_ 6 ?_ | (refine hr_ 6 ?_ ?_ ?_;rotate_left;(intro W hW;obtain ⟨s0q,s1q,s2q,s3q,s4q⟩:=hW.lb.ks;rw [HEE.out] at s3q;have ceq:=HCE.out _ hW.lb;have n1:=hW.at_ (ad:=ad11) (by simp) hjl;have n2:=hW.at_ (ad:=ad10) (by simp) hr10;rw [HER.out] at n2;have n3:=hW.at_ (ad:=ad5) (by simp) he5;rw [HMR.out] at n3;go_simp;try with_reducible rfl))
     first | refine hs_ 7 ?_ | (refine hr_ 7 ?_ ?_ ?_;rotate_left;(intro W hW;go_simp;try with_reducible rfl))
     first | refine hs_ 8 ?_ | (refine hr_ 8 ?_ ?_ ?_;rotate_left;(intro W hW;go_simp;try with_reducible rfl))
     first | refine hs_ 9 ?_ | (refine hr_ 9 ?_ ?_ ?_;rotate_left;(intro W hW;go_simp;try with_reducible rfl))
     first | refine hs_ 10 ?_ | (refine hr_ 10 ?_ ?_ ?_;rotate_left;(intro W hW;go_simp;try with_reducible rfl))
     first | refine hs_ 11 ?_ | (refine hr_ 11 ?_ ?_ ?_;rotate_left;(intro W hW;obtain ⟨s0q,s1q,s2q,s3q,s4q⟩:=hW.lb.ks;rw [HEE.out] at s3q;have ceq:=HCE.out _ hW.lb;have n1:=hW.at_ (ad:=ad11) (by simp) hjl;have n2:=hW.at_ (ad:=ad10) (by simp) hr10;rw [HER.out] at n2;have n3:=hW.at_ (ad:=ad5) (by simp) he5;rw [HMR.out] at n3;go_simp;try with_reducible rfl))
     first | refine hs_ 12 ?_ | (refine hr_ 12 ?_ ?_ ?_;rotate_left;(intro W hW;go_simp;try with_reducible rfl))
     first | refine hs_ 13 ?_ | (refine hr_ 13 ?_ ?_ ?_;rotate_left;(intro W hW;go_simp;try with_reducible rfl))
     first | refine hs_ 14 ?_ | (refine hr_ 14 ?_ ?_ ?_;rotate_left;(intro W hW;go_simp;try with_reducible rfl))
     first | refine hs_ 15 ?_ | (refine hr_ 15 ?_ ?_ ?_;rotate_left;(intro W hW;obtain ⟨s0q,s1q,s2q,s3q,s4q⟩:=hW.lb.ks;rw [HEE.out] at s3q;have ceq:=HCE.out _ hW.lb;have n1:=hW.at_ (ad:=ad11) (by simp) hjl;have n2:=hW.at_ (ad:=ad10) (by simp) hr10;rw [HER.out] at n2;have n3:=hW.at_ (ad:=ad5) (by simp) he5;rw [HMR.out] at n3;go_simp;try with_reducible rfl))
     first | refine hs_ 16 ?_ | (refine hr_ 16 ?_ ?_ ?_;rotate_left;(intro W hW;go_simp;try with_reducible rfl))
     first | refine hs_ 17 ?_ | (refine hr_ 17 ?_ ?_ ?_;rotate_left;(intro W hW;obtain ⟨s0q,s1q,s2q,s3q,s4q⟩:=hW.lb.ks;rw [HEE.out] at s3q;have ceq:=HCE.out _ hW.lb;have n1:=hW.at_ (ad:=ad11) (by simp) hjl;have n2:=hW.at_ (ad:=ad10) (by simp) hr10;rw [HER.out] at n2;have n3:=hW.at_ (ad:=ad5) (by simp) he5;rw [HMR.out] at n3;go_simp;try with_reducible rfl))
     first | refine hs_ 18 ?_ | (refine hr_ 18 ?_ ?_ ?_;rotate_left;(intro W hW;go_simp;try with_reducible rfl))
     first | refine hs_ 19 ?_ | (refine hr_ 19 ?_ ?_ ?_;rotate_left;(intro W hW;obtain ⟨s0q,s1q,s2q,s3q,s4q⟩:=hW.lb.ks;rw [HEE.out] at s3q;have ceq:=HCE.out _ hW.lb;have n1:=hW.at_ (ad:=ad11) (by simp) hjl;have n2:=hW.at_ (ad:=ad10) (by simp) hr10;rw [HER.out] at n2;have n3:=hW.at_ (ad:=ad5) (by simp) he5;rw [HMR.out] at n3;go_simp;try with_reducible rfl))
     first | refine hs_ 20 ?_ | (refine hr_ 20 ?_ ?_ ?_;rotate_left;(intro W hW;go_simp;try with_reducible rfl))
     first | refine hs_ 21 ?_ | (refine hr_ 21 ?_ ?_ ?_;rotate_left;(intro W hW;go_simp;try with_reducible rfl))
     first | refine hs_ 22 ?_ | (refine hr_ 22 ?_ ?_ ?_;rotate_left;(intro W hW;go_simp;try with_reducible rfl))
     first | refine hs_ 23 ?_ | (refine hr_ 23 ?_ ?_ ?_;rotate_left;(intro W hW;go_simp;try with_reducible rfl))
     first | refine hs_ 24 ?_ | (refine hr_ 24 ?_ ?_ ?_;rotate_left;(intro W hW;go_simp;try with_reducible rfl))
     first | refine hs_ 25 ?_ | (refine hr_ 25 ?_ ?_ ?_;rotate_left;(intro W hW;obtain ⟨s0q,s1q,s2q,s3q,s4q⟩:=hW.lb.ks;rw [HEE.out] at s3q;have ceq:=HCE.out _ hW.lb;have n1:=hW.at_ (ad:=ad11) (by simp) hjl;have n2:=hW.at_ (ad:=ad10) (by simp) hr10;rw [HER.out] at n2;have n3:=hW.at_ (ad:=ad5) (by simp) he5;rw [HMR.out] at n3;go_simp;try with_reducible rfl))
     first | refine hs_ 26 ?_ | (refine hr_ 26 ?_ ?_ ?_;rotate_left;(intro W hW;go_simp;try with_reducible rfl))
     first | refine hs_ 27 ?_ | (refine hr_ 27 ?_ ?_ ?_;rotate_left;(intro W hW;go_simp;try with_reducible rfl))
     first | refine hs_ 28 ?_ | (refine hr_ 28 ?_ ?_ ?_;rotate_left;(intro W hW;go_simp;try with_reducible rfl))
     first | refine hs_ 29 ?_ | (refine hr_ 29 ?_ ?_ ?_;rotate_left;(intro W hW;obtain ⟨s0q,s1q,s2q,s3q,s4q⟩:=hW.lb.ks;rw [HEE.out] at s3q;have ceq:=HCE.out _ hW.lb;have n1:=hW.at_ (ad:=ad11) (by simp) hjl;have n2:=hW.at_ (ad:=ad10) (by simp) hr10;rw [HER.out] at n2;have n3:=hW.at_ (ad:=ad5) (by simp) he5;rw [HMR.out] at n3;go_simp;try with_reducible rfl))
     first | refine hs_ 30 ?_ | (refine hr_ 30 ?_ ?_ ?_;rotate_left;(intro W hW;go_simp;try with_reducible rfl))
     first | refine hs_ 31 ?_ | (refine hr_ 31 ?_ ?_ ?_;rotate_left;(intro W hW;obtain ⟨s0q,s1q,s2q,s3q,s4q⟩:=hW.lb.ks;rw [HEE.out] at s3q;have ceq:=HCE.out _ hW.lb;have n1:=hW.at_ (ad:=ad11) (by simp) hjl;have n2:=hW.at_ (ad:=ad10) (by simp) hr10;rw [HER.out] at n2;have n3:=hW.at_ (ad:=ad5) (by simp) he5;rw [HMR.out] at n3;go_simp;try with_reducible rfl))
     refine ho_ 32 fun K hK=>?_;go_simp
     refine (hasInt_yes A7 c7 _ (ent k rl[j]) _ (hHeld.rd (A7,me) (by simp)) hq7 hem).mono ?_;rintro e wq9 ⟨rfl,hb9⟩
     replace hHeld:=hHeld.to hb9
     clear hb9;refine hk_ hK (hHeld) fun hHeld=>?_;clear hK K;first | refine hs_ 33 ?_ | (refine hr_ 33 ?_ ?_ ?_;rotate_left;(intro W hW;go_simp;try with_reducible rfl))
     first | refine hs_ 34 ?_ | (refine hr_ 34 ?_ ?_ ?_;rotate_left;(intro W hW;go_simp;try with_reducible rfl))
     refine wpAnyH_done (by kernel_rfl) ?_ _;have HL23:=Lib.hid hHeld;clear hHeld;go_wp2_with fail
     go_roundg (rl.length - (j + 1))
     case measure=>omega
     case rel=>exact ⟨j + 1,by omega,rfl,by go_num,HL23.out⟩
    ·
     obtain rfl : j = rl.length:=by omega
     go_wp2_with fail
     go_ret
     exact ⟨rfl,HL9.out.lb.low⟩
theorem lifted (os : Os) (started : os.Started) (H : Type) (enc : TypeId × Value → H) :
  ReturnsInHanded {} Tryz.checked os 5 .any (Rows.fnMustSpec.pre6 enc Tryz.prog Tryz.f5 Rows.fnMustRow.domain false) (Rows.fnMustSpec.post enc Tryz.prog Tryz.f5 false true false false):=by
 refine returnsInHanded_of_change (C:=Tryz.checked) own started (by kernel_rfl) Tryz.func5
  (ChangeSpec.witness6 (enc:=enc) (C:=Tryz.checked) false ⟨#[],#[.slice none 0 0],[]⟩ 8 (by kernel_rfl) (by kernel_rfl) (by kernel_rfl) (by kernel_rfl)) ?_
 intro W base args ds gs before hval0 hW hcnd _;have hval : ∀ (j : Nat) t v,Tryz.f5.params[j]? = some t → args[j]? = some v → Value.okWide Tryz.prog W .any base t v:=hval0;have hW':=hW;obtain ⟨p,q,hA0,hV,rfl,hfz,hnd⟩:=hW;have hA : DataW.TrodAll enc Tryz.prog W 0 (fun _=>true) true Tryz.f5.params.toList args.toList ds p:=hA0;rw [Tryz.params5] at hA hval;obtain ⟨v0,vs0,d0,ds0,p0,q0,hargs,rfl,rfl,h0,r0⟩:=trodAll_cons hA;obtain ⟨rfl,rfl,rfl⟩:=trodAll_nil r0;obtain rfl : args = #[v0]:=by cases args;simp_all
 have key : ∃ (A : Option Addr) (c : Nat) (zs : List UInt8),v0 = .slice A zs.length c ∧ Rd W W.heap.size A (bytesV zs) ∧ zs.length ≤ 9223372036854775807:=by
  obtain ⟨fuel,h0⟩:=h0;rw [slice_cells Tryz.underlying22 (hval 0 22 v0 rfl rfl)] at h0;obtain ⟨A,c,zs,e,hr,hn⟩:=rd_bytes h0;injection e with e;exact ⟨A,c,zs,e,hr,hn⟩
 obtain ⟨A,c,zs,rfl,hr,hn⟩:=key;refine (walk zs A c W hr hn).mono fun e W' ⟨he,hb⟩=>?_;subst he;exact ⟨_,rfl,post_of_law laidOut rfl Tryz.underlying4 rfl (by kernel_rfl) (fun ds hds=>by
  match ds,hds with
  | [d],_=>exact ⟨rfl,rfl,rfl⟩) hW' hb⟩
theorem over : Rows.fnMustRow.holds Tryz.pinned (OpenSpec.ofChange Rows.fnMustSpec) :=
 OpenClaim.holds_of_wide 5 Tryz.f5 rfl rfl rfl rfl rfl rfl rfl ⟨rfl,rfl,rfl,rfl,rfl⟩ rfl rfl rfl rfl rfl (by kernel_rfl) Tryz.func5 (by kernel_rfl)
  (of_decide_eq_true (by kernel_rfl)) (by unfold Func.isWrapper;first | (rw [if_pos (by decide +kernel)];kernel_rfl) | (rw [if_neg (by decide +kernel)];exact ⟨rfl,rfl⟩))
  (fun os started H enc _=>lifted os started H enc)
theorem proved : Rows.FnMustSaid:=over
#print axioms proved
end Go.Proofs.YtkgoajnnkimkaaaGreat.fnMust
