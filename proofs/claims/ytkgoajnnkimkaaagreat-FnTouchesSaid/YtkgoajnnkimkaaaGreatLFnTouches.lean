/- In drawn code each touch is where a thread may come, of a number that is read there, or set, and what is quiet is set nowhere: the law FnTouches returns true. No condition beyond the given statement's own. -/
import Derived.Test.YtkgoajnnkimkaaaGreatH26
import Derived.Test.YtkgoajnnkimkaaaGreatMFnTouchesa
import Derived.Test.YtkgoajnnkimkaaaGreatMFnTouchesb
set_option linter.unusedSimpArgs false
set_option linter.unusedVariables false
set_option maxRecDepth 100000
set_option maxHeartbeats 16000000
namespace Go.Proofs.YtkgoajnnkimkaaaGreat.fnTouches
open Go.ChangeShapes Go.WideShapes Go.ChangeAt Go.RowKit
theorem walk (b : List UInt8) (A : Option Addr) (c : Nat) (w : World) (h : Rd w w.heap.size A (bytesV b)) (hn : b.length ≤ 9223372036854775807) :
  Calls Tryz.prog 10 #[.slice A b.length c] w fun e w'=>e = .returned (.bool true) ∧ Below w.heap.size w w':=by
 by_cases hbig : 1048576 < b.length
 ·
  have HB:=Lib.hid (show Calls Tryz.prog 11 #[.slice A b.length c] w fun e w'=>e = .returned (.bool true) ∧ w' = w from by
   have:=big_any A c w hn
   rwa [decide_eq_true hbig] at this)
  clear hbig hn h
  go_enter Tryz.func10, Tryz.ntmps10
  go_wp2_with fail
  refine HB.out.mono ?_;rintro e w' ⟨rfl,hw⟩;obtain rfl : w = w':=hw.symm;go_wp2_with fail
  go_ret
  exact ⟨rfl,Below.refl _ _⟩
 have HB:=Lib.hid (show Calls Tryz.prog 11 #[.slice A b.length c] w fun e w'=>e = .returned (.bool false) ∧ w' = w from by
  have:=big_any A c w hn
  rwa [decide_eq_false hbig] at this)
 have hn' : b.length ≤ 1048576:=by omega
 have HD:=Lib.hid (fun V (hV : Below w.heap.size w V)=>drawCode_any b A c V (h.below hV).full hn');have HDP:=Lib.hid (fun V (hV : Below w.heap.size w V)=>(show Calls Tryz.prog 16 #[.slice A b.length c] V (NewNats V (placesF b)) from by
  have:=drawPlaces_any b A c V (h.below hV).full hn';have e : ((placesF b).map fun (n : Nat)=>iv (n : Int)) = nv (placesF b):=by simp [nv,natI]
  unfold NewNats;rw [placesF_len,← e];exact this))
 have hpl:=placesF_len b;generalize hpf : placesF b = pf at HDP hpl;have hok : codeOkI (codeD (newD b)) = true:=codeD_ok _;have hcb : CdB 1048576 (codeD (newD b)):=codeD_b _;clear hpf hbig hn hn' h;generalize codeD (newD b) = k at HD hok hcb;have hr:=right_of hok;have hins:=hr.ins;have hgl:=hr.globals;have htl0:=touches_len hok;have HR:=Lib.hid hr;have HTI:=Lib.hid (fun z W (hz : CodeAt W W.heap.size z k)=>(show Calls Tryz.prog 75 #[.agg #[.slice z.gA k.globals.length z.gc, .slice z.lA k.locks.length z.lc, .slice z.pA k.procs.length z.pc, .slice z.eA k.entry.length z.ec, .slice z.iA k.ins.length z.ic]] W (NewT W (touchesN k)) from by
  have:=touchesOf_i z k W hz hcb (by omega)
  rwa [codeT_yes hok] at this))
 have HTS:=Lib.hid (fun z W (hz : CodeAt W W.heap.size z k)=>(show Calls Tryz.prog 77 #[.agg #[.slice z.gA k.globals.length z.gc, .slice z.lA k.locks.length z.lc, .slice z.pA k.procs.length z.pc, .slice z.eA k.entry.length z.ec, .slice z.iA k.ins.length z.ic]] W (NewT W (touchesN k)) from by
  have:=touchesOf_s z k W hz hcb (by omega)
  rwa [codeT_yes hok] at this))
 have HQU:=Lib.hid (fun z  W (hz : CodeAt W W.heap.size z k)=>(show Calls Tryz.prog 74 #[.agg #[.slice z.gA k.globals.length z.gc, .slice z.lA k.locks.length z.lc, .slice z.pA k.procs.length z.pc, .slice z.eA k.entry.length z.ec, .slice z.iA k.ins.length z.ic]] W (NewNats W (quietL k)) from by
  have:=quietOf_i z k W hz hcb (by omega)
  rwa [codeL_yes hok] at this))
 have HWR:=Lib.hid (fun z (g : Nat) W (hz : CodeAt W W.heap.size z k)=>(show Calls Tryz.prog 67 #[.agg #[.slice z.gA k.globals.length z.gc, .slice z.lA k.locks.length z.lc, .slice z.pA k.procs.length z.pc, .slice z.eA k.entry.length z.ec, .slice z.iA k.ins.length z.ic],.int .i64 (g : Int)] W (NewNats W (wrL (g : Int) (touchesN k))) from by
  have:=writersOf_i z k (g : Int) W hz hcb (by omega);unfold writersL at this
  rwa [codeT_yes hok] at this))
 have HTN:=Lib.hid (fun j (h : j < (touchesN k).length)=>touch_in (List.getElem_mem h));have HQN:=Lib.hid (fun j (h : j < (touchesN k).length)=>quiet_no (List.getElem_mem h));have HQE:=Lib.hid (fun g (h : g < k.globals.length)=>quiet_eq h);have hql : (quietL k).length ≤ k.globals.length:=listN_len _ _;have hql2 : (quietL k).length ≤ 1099511627776:=by omega
 have HTM:=Lib.hid (fun a (h : a < k.ins.length)=>(hcb.insB _ (List.getElem_mem h)).term);generalize touchesN k = ts at HTI HTS HWR HTN HQN HQE htl0;generalize quietL k = ql at HQU HQN HQE hql hql2;have htl : ts.length ≤ 1048576:=by omega
 have HWL:=Lib.hid (fun g=>Nat.le_trans (wrL_len g ts) (show ts.length ≤ 1099511627776 by omega));clear hok hcb
 go_enter Tryz.func10, Tryz.ntmps10
 go_wp2_with fail
 refine HB.out.mono ?_;rintro e w' ⟨rfl,hw⟩;obtain rfl : w = w':=hw.symm;go_wp2_with fail
 refine (HD.out _ (Below.refl _ _)).mono ?_;rintro e w1 ⟨v,rfl,hk1,hb1⟩;have hk1':=(hk1.sub (Nat.le_refl _) high_low).full;go_wp2_with fail
 have hbx1:=codeBox w1 v k;generalize w1.alloc (.cells #[.slice v.gA k.globals.length v.gc, .slice v.lA k.locks.length v.lc, .slice v.pA k.procs.length v.pc, .slice v.eA k.entry.length v.ec, .slice v.iA k.ins.length v.ic] 28) = W1 at hbx1 ⊢;have hlow1:=below_trans' hb1 hbx1.1;have hkv:=kAt_of hbx1;have hck:=(hk1'.below hbx1.1).full;clear hk1 hk1' hb1 hbx1;generalize w1.heap.size = gk at hkv ⊢;refine (HD.out W1 hlow1).mono ?_;rintro e w2 ⟨u,rfl,hk2,hb2⟩;have hk2':=(hk2.sub (Nat.le_refl _) high_low).full;obtain ⟨k0,k1,k2,k3,k4⟩:=hkv.to hb2;have hgk:=World.block_lt_of_cell? _ _ k0;have hgn : ¬ gk = w2.heap.size:=Nat.ne_of_lt hgk;go_wp2_with fail
 clear k0 k1 k2 k3 k4 hgk hgn;have hbx2:=codeBox w2 u k;generalize w2.alloc (.cells #[.slice u.gA k.globals.length u.gc, .slice u.lA k.locks.length u.lc, .slice u.pA k.procs.length u.pc, .slice u.eA k.entry.length u.ec, .slice u.iA k.ins.length u.ic] 28) = W2 at hbx2 ⊢;have hb12:=below_trans' hb2 hbx2.1;have hlb : LB w k gk w2.heap.size v u W2:=⟨below_trans' hlow1 hb12,hkv.to hb12,kAt_of hbx2,(hck.below hb12).full,(hk2'.below hbx2.1).full⟩
 clear hk2 hk2' hb2 hbx2 hb12 hlow1 hkv hck HB HD;generalize w2.heap.size = gs at hlb ⊢;have HLB:=Lib.hid hlb;clear hlb;refine (HTI.out v _ HLB.out.ck).mono ?_;rintro e w5 ⟨A5,c5,rfl,ho5,hb5⟩;have HL5:=Lib.hid (show LT w k gk gs v u A5 ts [] w5 from ⟨(HLB.out.to hb5).ls,own_rd ho5⟩);clear ho5 hb5 HLB;obtain ⟨s0,s1,s2,s3,s4⟩:=HL5.out.ls.lb.ks;go_wp2_with fail
 refine (HTS.out u _ HL5.out.ls.lb.cs).mono ?_;rintro e w6 ⟨A6,c6,rfl,ho6,hb6⟩;have r6:=own_rd ho6;have HL6:=Lib.hid (HL5.out.to hb6);clear ho6 hb6 s0 s1 s2 s3 s4 HL5;go_wp2_with fail
 refine (sameTouches_same A5 A6 c5 c6 ts _ HL6.out.t r6 htl).mono ?_;rintro e w7 ⟨rfl,hb7⟩;have HL7:=Lib.hid (HL6.out.to hb7);clear hb7 HL6 r6;obtain ⟨k0,k1,k2,k3,k4⟩:=HL7.out.ls.lb.kk;go_wp2_with fail
 refine (HQU.out v _ HL7.out.ls.lb.ck).mono ?_;rintro e w8 ⟨A8,c8,rfl,ho8,hb8⟩;have HL8:=Lib.hid ((HL7.out.to hb8).add (own_rd ho8));clear ho8 hb8 k0 k1 k2 k3 k4 HL7;go_wp2_with fail
 go_loopg [7,8,9] ts.length (fun l i y8 y9 wr=>∃ j : Nat,j ≤ ts.length ∧ l = ts.length - j ∧ i = .int .i64 j ∧ LT w k gk gs v u A5 ts [(A8,ql)] wr)
 case atStart=>exact ⟨0,by omega,by omega,rfl,HL8.out⟩
 case round =>
  clear HL8;obtain ⟨j,hj,rfl,rfl,hs4⟩:=hrel;have HL9:=Lib.hid hs4;clear hs4;by_cases hjl : j < ts.length
  ·
   have HI:=Lib.hid (HTN.out j hjl);have hal:=HI.out.a;have hgl2:=HI.out.g;have z1 : (j : Int) < (ts.length : Int):=by omega
   have z2 : (0 : Int) ≤ (j : Int):=by omega
   have z3 : (ts[j].a : Int) < (k.ins.length : Int):=by omega
   have z4 : (0 : Int) ≤ (ts[j].a : Int):=by omega
   have z5 : (ts[j].g : Int) < (k.globals.length : Int):=by omega
   have z6 : (0 : Int) ≤ (ts[j].g : Int):=by omega
   obtain ⟨s0,s1,s2,s3,s4⟩:=HL9.out.ls.lb.ks;obtain ⟨ad5,rfl,_,t0,t1,t2,t3⟩:=HL9.out.t.touch hjl;obtain ⟨adi,A',c',eI,_,i0,i1,i2,i3,i4,i5,i6,hkid⟩:=HL9.out.ls.lb.cs.i.get hal;rw [eI] at s4;clear eI;have b1:=below_alloc0 wr (.cells #[.int .i64 (ts[j].a : Int),.int .i64 (ts[j].g : Int),.bool ts[j].w,.int .i64 (ts[j].h : Int)] 66);obtain ⟨ss4,ii0,ii1,ii2,ii3,ii4,ii5,ii6⟩:=cb8 b1 s4 i0 i1 i2 i3 i4 i5 i6;have b2:=below_alloc0 (wr.alloc (.cells #[.int .i64 (ts[j].a : Int),.int .i64 (ts[j].g : Int),.bool ts[j].w,.int .i64 (ts[j].h : Int)] 66)) (.cells #[.int .i64 k.ins[ts[j].a].op,.int .i64 k.ins[ts[j].a].arg,.int .i64 k.ins[ts[j].a].term.kind,.int .i64 k.ins[ts[j].a].term.num,.string k.ins[ts[j].a].term.name,.slice A' k.ins[ts[j].a].term.kids.length c',.int .i64 k.ins[ts[j].a].to] 52);have hsz : (wr.alloc (.cells #[.int .i64 (ts[j].a : Int),.int .i64 (ts[j].g : Int),.bool ts[j].w,.int .i64 (ts[j].h : Int)] 66)).heap.size = wr.heap.size + 1:=by simp
   have x0:=cell_below b2 (box_cell wr #[.int .i64 (ts[j].a : Int),.int .i64 (ts[j].g : Int),.bool ts[j].w,.int .i64 (ts[j].h : Int)] 66 0 rfl);have x1:=cell_below b2 (box_cell wr #[.int .i64 (ts[j].a : Int),.int .i64 (ts[j].g : Int),.bool ts[j].w,.int .i64 (ts[j].h : Int)] 66 1 rfl);have x2:=cell_below b2 (box_cell wr #[.int .i64 (ts[j].a : Int),.int .i64 (ts[j].g : Int),.bool ts[j].w,.int .i64 (ts[j].h : Int)] 66 2 rfl);have y0:=box_cell (wr.alloc (.cells #[.int .i64 (ts[j].a : Int),.int .i64 (ts[j].g : Int),.bool ts[j].w,.int .i64 (ts[j].h : Int)] 66)) #[.int .i64 k.ins[ts[j].a].op,.int .i64 k.ins[ts[j].a].arg,.int .i64 k.ins[ts[j].a].term.kind,.int .i64 k.ins[ts[j].a].term.num,.string k.ins[ts[j].a].term.name,.slice A' k.ins[ts[j].a].term.kids.length c',.int .i64 k.ins[ts[j].a].to] 52 0 rfl;have y1:=box_cell (wr.alloc (.cells #[.int .i64 (ts[j].a : Int),.int .i64 (ts[j].g : Int),.bool ts[j].w,.int .i64 (ts[j].h : Int)] 66)) #[.int .i64 k.ins[ts[j].a].op,.int .i64 k.ins[ts[j].a].arg,.int .i64 k.ins[ts[j].a].term.kind,.int .i64 k.ins[ts[j].a].term.num,.string k.ins[ts[j].a].term.name,.slice A' k.ins[ts[j].a].term.kids.length c',.int .i64 k.ins[ts[j].a].to] 52 1 rfl;have y2:=box_cell (wr.alloc (.cells #[.int .i64 (ts[j].a : Int),.int .i64 (ts[j].g : Int),.bool ts[j].w,.int .i64 (ts[j].h : Int)] 66)) #[.int .i64 k.ins[ts[j].a].op,.int .i64 k.ins[ts[j].a].arg,.int .i64 k.ins[ts[j].a].term.kind,.int .i64 k.ins[ts[j].a].term.num,.string k.ins[ts[j].a].term.name,.slice A' k.ins[ts[j].a].term.kids.length c',.int .i64 k.ins[ts[j].a].to] 52 2 rfl;have y3:=box_cell (wr.alloc (.cells #[.int .i64 (ts[j].a : Int),.int .i64 (ts[j].g : Int),.bool ts[j].w,.int .i64 (ts[j].h : Int)] 66)) #[.int .i64 k.ins[ts[j].a].op,.int .i64 k.ins[ts[j].a].arg,.int .i64 k.ins[ts[j].a].term.kind,.int .i64 k.ins[ts[j].a].term.num,.string k.ins[ts[j].a].term.name,.slice A' k.ins[ts[j].a].term.kids.length c',.int .i64 k.ins[ts[j].a].to] 52 3 rfl;have y4:=box_cell (wr.alloc (.cells #[.int .i64 (ts[j].a : Int),.int .i64 (ts[j].g : Int),.bool ts[j].w,.int .i64 (ts[j].h : Int)] 66)) #[.int .i64 k.ins[ts[j].a].op,.int .i64 k.ins[ts[j].a].arg,.int .i64 k.ins[ts[j].a].term.kind,.int .i64 k.ins[ts[j].a].term.num,.string k.ins[ts[j].a].term.name,.slice A' k.ins[ts[j].a].term.kids.length c',.int .i64 k.ins[ts[j].a].to] 52 4 rfl;have y5:=box_cell (wr.alloc (.cells #[.int .i64 (ts[j].a : Int),.int .i64 (ts[j].g : Int),.bool ts[j].w,.int .i64 (ts[j].h : Int)] 66)) #[.int .i64 k.ins[ts[j].a].op,.int .i64 k.ins[ts[j].a].arg,.int .i64 k.ins[ts[j].a].term.kind,.int .i64 k.ins[ts[j].a].term.num,.string k.ins[ts[j].a].term.name,.slice A' k.ins[ts[j].a].term.kids.length c',.int .i64 k.ins[ts[j].a].to] 52 5 rfl;rw [hsz] at y0 y1 y2 y3 y4 y5;clear hsz;have HX:=Lib.hid (LT.at_ ((HL9.out.to b1).to b2));have HKV:=Lib.hid ((hkid.below b1).full.below b2).full;clear b2 hkid;go_wp2_with fail
   clear b1 s0 s1 s2 s3 s4 t0 t1 t2 t3 i0 i1 i2 i3 i4 i5 i6 ss4 ii0 ii1 ii2 ii3 ii4 ii5 ii6 HL9;generalize (wr.alloc (.cells #[.int .i64 (ts[j].a : Int),.int .i64 (ts[j].g : Int),.bool ts[j].w,.int .i64 (ts[j].h : Int)] 66)).alloc (.cells #[.int .i64 k.ins[ts[j].a].op,.int .i64 k.ins[ts[j].a].arg,.int .i64 k.ins[ts[j].a].term.kind,.int .i64 k.ins[ts[j].a].term.num,.string k.ins[ts[j].a].term.name,.slice A' k.ins[ts[j].a].term.kids.length c',.int .i64 k.ins[ts[j].a].to] 52) = V at x0 x1 x2 y0 y1 y2 y3 y4 y5 HX HKV ⊢;obtain ⟨adg,eG,_,hcg⟩:=HX.out.lt.ls.lb.cs.g.str hgl2;have HGE:=Lib.hid eG;have HGC:=Lib.hid (fun W (h : LB w k gk gs v u W)=>(show W.cell? (adg.add ts[j].g) = some (.string k.globals[ts[j].g]) from by
    obtain ⟨ad',e,_,hc⟩:=h.cs.g.str hgl2;rw [HGE.out] at e;injection e with e;rw [e];exact hc))
   clear eG hcg;cases hw : ts[j].w
   ·
    rw [hw] at x2;have hrm:=read_in hal hgl2 (HI.out.no hw);have hrl : (readsOf k.ins[ts[j].a].term).length ≤ 1099511627776:=Nat.le_trans (readsF_len6 _) (by omega);clear hw;refine wp_region_held_drew (S:=fun w'=>LX w k gk gs v u (some ad5) ts [(A8,ql)] V w') (by kernel_rfl) (HX.out.drew) (fun hHeld=>?_);first | refine hs_ 0 ?_ | (refine hr_ 0 ?_ ?_ ?_;rotate_left;(intro W hW;go_simp;try with_reducible rfl))
    first | refine hs_ 1 ?_ | (refine hr_ 1 ?_ ?_ ?_;rotate_left;(intro W hW;obtain ⟨x0q,x1q,x2q,y0q,y1q,y2q,y3q,y4q,y5q⟩:=cb9 hW.low x0 x1 x2 y0 y1 y2 y3 y4 y5;obtain ⟨s0q,s1q,s2q,s3q,s4q⟩:=hW.lt.ls.lb.ks;rw [HGE.out] at s0q;have gq:=HGC.out _ hW.lt.ls.lb;go_simp;try with_reducible rfl))
    first | refine hs_ 2 ?_ | (refine hr_ 2 ?_ ?_ ?_;rotate_left;(intro W hW;go_simp;try with_reducible rfl))
    first | refine hs_ 3 ?_ | (refine hr_ 3 ?_ ?_ ?_;rotate_left;(intro W hW;go_simp;try with_reducible rfl))
    first | refine hs_ 4 ?_ | (refine hr_ 4 ?_ ?_ ?_;rotate_left;(intro W hW;obtain ⟨x0q,x1q,x2q,y0q,y1q,y2q,y3q,y4q,y5q⟩:=cb9 hW.low x0 x1 x2 y0 y1 y2 y3 y4 y5;obtain ⟨s0q,s1q,s2q,s3q,s4q⟩:=hW.lt.ls.lb.ks;rw [HGE.out] at s0q;have gq:=HGC.out _ hW.lt.ls.lb;go_simp;try with_reducible rfl))
    first | refine hs_ 5 ?_ | (refine hr_ 5 ?_ ?_ ?_;rotate_left;(intro W hW;go_simp;try with_reducible rfl))
    first | refine hs_ 6 ?_ | (refine hr_ 6 ?_ ?_ ?_;rotate_left;(intro W hW;go_simp;try with_reducible rfl))
    first | refine hs_ 7 ?_ | (refine hr_ 7 ?_ ?_ ?_;rotate_left;(intro W hW;go_simp;try with_reducible rfl))
    first | refine hs_ 8 ?_ | (refine hr_ 8 ?_ ?_ ?_;rotate_left;(intro W hW;obtain ⟨x0q,x1q,x2q,y0q,y1q,y2q,y3q,y4q,y5q⟩:=cb9 hW.low x0 x1 x2 y0 y1 y2 y3 y4 y5;obtain ⟨s0q,s1q,s2q,s3q,s4q⟩:=hW.lt.ls.lb.ks;rw [HGE.out] at s0q;have gq:=HGC.out _ hW.lt.ls.lb;go_simp;try with_reducible rfl))
    first | refine hs_ 9 ?_ | (refine hr_ 9 ?_ ?_ ?_;rotate_left;(intro W hW;go_simp;try with_reducible rfl))
    first | refine hs_ 10 ?_ | (refine hr_ 10 ?_ ?_ ?_;rotate_left;(intro W hW;obtain ⟨x0q,x1q,x2q,y0q,y1q,y2q,y3q,y4q,y5q⟩:=cb9 hW.low x0 x1 x2 y0 y1 y2 y3 y4 y5;obtain ⟨s0q,s1q,s2q,s3q,s4q⟩:=hW.lt.ls.lb.ks;rw [HGE.out] at s0q;have gq:=HGC.out _ hW.lt.ls.lb;go_simp;try with_reducible rfl))
    first | refine hs_ 11 ?_ | (refine hr_ 11 ?_ ?_ ?_;rotate_left;(intro W hW;go_simp;try with_reducible rfl))
    first | refine hs_ 12 ?_ | (refine hr_ 12 ?_ ?_ ?_;rotate_left;(intro W hW;go_simp;try with_reducible rfl))
    first | refine hs_ 13 ?_ | (refine hr_ 13 ?_ ?_ ?_;rotate_left;(intro W hW;go_simp;try with_reducible rfl))
    first | refine hs_ 14 ?_ | (refine hr_ 14 ?_ ?_ ?_;rotate_left;(intro W hW;go_simp;try with_reducible rfl))
    first | refine hs_ 15 ?_ | (refine hr_ 15 ?_ ?_ ?_;rotate_left;(intro W hW;go_simp;try with_reducible rfl))
    first | refine hs_ 16 ?_ | (refine hr_ 16 ?_ ?_ ?_;rotate_left;(intro W hW;obtain ⟨x0q,x1q,x2q,y0q,y1q,y2q,y3q,y4q,y5q⟩:=cb9 hW.low x0 x1 x2 y0 y1 y2 y3 y4 y5;obtain ⟨s0q,s1q,s2q,s3q,s4q⟩:=hW.lt.ls.lb.ks;rw [HGE.out] at s0q;have gq:=HGC.out _ hW.lt.ls.lb;go_simp;try with_reducible rfl))
    first | refine hs_ 17 ?_ | (refine hr_ 17 ?_ ?_ ?_;rotate_left;(intro W hW;go_simp;try with_reducible rfl))
    first | refine hs_ 18 ?_ | (refine hr_ 18 ?_ ?_ ?_;rotate_left;(intro W hW;go_simp;try with_reducible rfl))
    first | refine hs_ 19 ?_ | (refine hr_ 19 ?_ ?_ ?_;rotate_left;(intro W hW;go_simp;try with_reducible rfl))
    first | refine hs_ 20 ?_ | (refine hr_ 20 ?_ ?_ ?_;rotate_left;(intro W hW;obtain ⟨k0q,k1q,k2q,k3q,k4q⟩:=hW.lt.ls.lb.kk;go_simp;try with_reducible rfl))
    first | refine hs_ 21 ?_ | (refine hr_ 21 ?_ ?_ ?_;rotate_left;(intro W hW;go_simp;try with_reducible rfl))
    first | refine hs_ 22 ?_ | (refine hr_ 22 ?_ ?_ ?_;rotate_left;(intro W hW;obtain ⟨x0q,x1q,x2q,y0q,y1q,y2q,y3q,y4q,y5q⟩:=cb9 hW.low x0 x1 x2 y0 y1 y2 y3 y4 y5;obtain ⟨s0q,s1q,s2q,s3q,s4q⟩:=hW.lt.ls.lb.ks;rw [HGE.out] at s0q;have gq:=HGC.out _ hW.lt.ls.lb;go_simp;try with_reducible rfl))
    first | refine hs_ 23 ?_ | (refine hr_ 23 ?_ ?_ ?_;rotate_left;(intro W hW;go_simp;try with_reducible rfl))
    first | refine hs_ 24 ?_ | (refine hr_ 24 ?_ ?_ ?_;rotate_left;(intro W hW;go_simp;try with_reducible rfl))
    first | refine hs_ 25 ?_ | (refine hr_ 25 ?_ ?_ ?_;rotate_left;(intro W hW;obtain ⟨x0q,x1q,x2q,y0q,y1q,y2q,y3q,y4q,y5q⟩:=cb9 hW.low x0 x1 x2 y0 y1 y2 y3 y4 y5;obtain ⟨s0q,s1q,s2q,s3q,s4q⟩:=hW.lt.ls.lb.ks;rw [HGE.out] at s0q;have gq:=HGC.out _ hW.lt.ls.lb;go_simp;try with_reducible rfl))
    first | refine hs_ 26 ?_ | (refine hr_ 26 ?_ ?_ ?_;rotate_left;(intro W hW;go_simp;try with_reducible rfl))
    first | refine hs_ 27 ?_ | (refine hr_ 27 ?_ ?_ ?_;rotate_left;(intro W hW;go_simp;try with_reducible rfl))
    first | refine hs_ 28 ?_ | (refine hr_ 28 ?_ ?_ ?_;rotate_left;(intro W hW;go_simp;try with_reducible rfl))
    first | refine hs_ 29 ?_ | (refine hr_ 29 ?_ ?_ ?_;rotate_left;(intro W hW;go_simp;try with_reducible rfl))
    first | refine hs_ 30 ?_ | (refine hr_ 30 ?_ ?_ ?_;rotate_left;(intro W hW;go_simp;try with_reducible rfl))
    first | refine hs_ 31 ?_ | (refine hr_ 31 ?_ ?_ ?_;rotate_left;(intro W hW;go_simp;try with_reducible rfl))
    first | refine hs_ 32 ?_ | (refine hr_ 32 ?_ ?_ ?_;rotate_left;(intro W hW;obtain ⟨x0q,x1q,x2q,y0q,y1q,y2q,y3q,y4q,y5q⟩:=cb9 hW.low x0 x1 x2 y0 y1 y2 y3 y4 y5;obtain ⟨s0q,s1q,s2q,s3q,s4q⟩:=hW.lt.ls.lb.ks;rw [HGE.out] at s0q;have gq:=HGC.out _ hW.lt.ls.lb;go_simp;try with_reducible rfl))
    first | refine hs_ 33 ?_ | (refine hr_ 33 ?_ ?_ ?_;rotate_left;(intro W hW;go_simp;try with_reducible rfl))
    first | refine hs_ 34 ?_ | (refine hr_ 34 ?_ ?_ ?_;rotate_left;(intro W hW;go_simp;try with_reducible rfl))
    first | refine hs_ 35 ?_ | (refine hr_ 35 ?_ ?_ ?_;rotate_left;(intro W hW;go_simp;try with_reducible rfl))
    first | refine hs_ 36 ?_ | (refine hr_ 36 ?_ ?_ ?_;rotate_left;(intro W hW;obtain ⟨x0q,x1q,x2q,y0q,y1q,y2q,y3q,y4q,y5q⟩:=cb9 hW.low x0 x1 x2 y0 y1 y2 y3 y4 y5;obtain ⟨s0q,s1q,s2q,s3q,s4q⟩:=hW.lt.ls.lb.ks;rw [HGE.out] at s0q;have gq:=HGC.out _ hW.lt.ls.lb;go_simp;try with_reducible rfl))
    first | refine hs_ 38 ?_ | (refine hr_ 38 ?_ ?_ ?_;rotate_left;(intro W hW;go_simp;try with_reducible rfl))
    first | refine hs_ 39 ?_ | (refine hr_ 39 ?_ ?_ ?_;rotate_left;(intro W hW;obtain ⟨x0q,x1q,x2q,y0q,y1q,y2q,y3q,y4q,y5q⟩:=cb9 hW.low x0 x1 x2 y0 y1 y2 y3 y4 y5;obtain ⟨s0q,s1q,s2q,s3q,s4q⟩:=hW.lt.ls.lb.ks;rw [HGE.out] at s0q;have gq:=HGC.out _ hW.lt.ls.lb;go_simp;try with_reducible rfl))
    first | refine hs_ 40 ?_ | (refine hr_ 40 ?_ ?_ ?_;rotate_left;(intro W hW;go_simp;try with_reducible rfl))
    first | refine hs_ 41 ?_ | (refine hr_ 41 ?_ ?_ ?_;rotate_left;(intro W hW;obtain ⟨x0q,x1q,x2q,y0q,y1q,y2q,y3q,y4q,y5q⟩:=cb9 hW.low x0 x1 x2 y0 y1 y2 y3 y4 y5;obtain ⟨s0q,s1q,s2q,s3q,s4q⟩:=hW.lt.ls.lb.ks;rw [HGE.out] at s0q;have gq:=HGC.out _ hW.lt.ls.lb;go_simp;try with_reducible rfl))
    first | refine hs_ 42 ?_ | (refine hr_ 42 ?_ ?_ ?_;rotate_left;(intro W hW;go_simp;try with_reducible rfl))
    first | refine hs_ 43 ?_ | (refine hr_ 43 ?_ ?_ ?_;rotate_left;(intro W hW;obtain ⟨x0q,x1q,x2q,y0q,y1q,y2q,y3q,y4q,y5q⟩:=cb9 hW.low x0 x1 x2 y0 y1 y2 y3 y4 y5;obtain ⟨s0q,s1q,s2q,s3q,s4q⟩:=hW.lt.ls.lb.ks;rw [HGE.out] at s0q;have gq:=HGC.out _ hW.lt.ls.lb;go_simp;try with_reducible rfl))
    refine ho_ 37 fun K hK=>?_;go_simp
    refine (readsOf_s k.ins[ts[j].a].term A' c' _ (HKV.out.below hHeld.low).full (HTM.out _ hal) (by omega)).mono ?_;rintro e wq4 ⟨Ar,cr,rfl,ho4,hb4⟩;have rr:=own_rd ho4
    replace hHeld:=hHeld.to hb4
    clear ho4 hb4;refine hk_ hK (hHeld) fun hHeld=>?_;clear hK K;refine ho_ 44 fun K hK=>?_;go_simp
    refine (hasText_any Ar cr _ k.globals[ts[j].g] _ rr hrl).mono ?_;rintro e wq5 ⟨rfl,hb5⟩
    replace hHeld:=hHeld.to hb5
    clear hb5;rw [decide_eq_true hrm];clear rr;refine hk_ hK (hHeld) fun hHeld=>?_;clear hK K;first | refine hs_ 45 ?_ | (refine hr_ 45 ?_ ?_ ?_;rotate_left;(intro W hW;go_simp;try with_reducible rfl))
    first | refine hs_ 46 ?_ | (refine hr_ 46 ?_ ?_ ?_;rotate_left;(intro W hW;go_simp;try with_reducible rfl))
    first | refine hs_ 47 ?_ | (refine hr_ 47 ?_ ?_ ?_;rotate_left;(intro W hW;go_simp;try with_reducible rfl))
    refine wpAnyH_done (by kernel_rfl) ?_ _;have HX9:=Lib.hid hHeld;clear hHeld;go_wp2_with fail
    go_roundg (ts.length - (j + 1))
    case measure=>omega
    case rel=>exact ⟨j + 1,by omega,rfl,by go_num,HX9.out.lt⟩
   ·
    rw [hw] at x2;have e1 : (k.ins[ts[j].a].op != 1) = false:=by rw [opN_eq hal,(HI.out.yes hw).1];rfl
    have e2 : (k.ins[ts[j].a].arg != (ts[j].g : Int)) = false:=by rw [argN_eq HR.out hal,(HI.out.yes hw).2];simp
    have hqn:=HQN.out j hjl hw;have hmw:=writer_in (List.getElem_mem hjl) hw;clear hw;refine wp_region_held_drew (S:=fun w'=>LX w k gk gs v u (some ad5) ts [(A8,ql)] V w') (by kernel_rfl) (HX.out.drew) (fun hHeld=>?_);first | refine hs_ 0 ?_ | (refine hr_ 0 ?_ ?_ ?_;rotate_left;(intro W hW;go_simp;try with_reducible rfl))
    first | refine hs_ 1 ?_ | (refine hr_ 1 ?_ ?_ ?_;rotate_left;(intro W hW;obtain ⟨x0q,x1q,x2q,y0q,y1q,y2q,y3q,y4q,y5q⟩:=cb9 hW.low x0 x1 x2 y0 y1 y2 y3 y4 y5;obtain ⟨s0q,s1q,s2q,s3q,s4q⟩:=hW.lt.ls.lb.ks;rw [HGE.out] at s0q;have gq:=HGC.out _ hW.lt.ls.lb;go_simp;try with_reducible rfl))
    first | refine hs_ 2 ?_ | (refine hr_ 2 ?_ ?_ ?_;rotate_left;(intro W hW;go_simp;try with_reducible rfl))
    first | refine hs_ 3 ?_ | (refine hr_ 3 ?_ ?_ ?_;rotate_left;(intro W hW;go_simp;try with_reducible rfl))
    first | refine hs_ 4 ?_ | (refine hr_ 4 ?_ ?_ ?_;rotate_left;(intro W hW;obtain ⟨x0q,x1q,x2q,y0q,y1q,y2q,y3q,y4q,y5q⟩:=cb9 hW.low x0 x1 x2 y0 y1 y2 y3 y4 y5;obtain ⟨s0q,s1q,s2q,s3q,s4q⟩:=hW.lt.ls.lb.ks;rw [HGE.out] at s0q;have gq:=HGC.out _ hW.lt.ls.lb;go_simp;try with_reducible rfl))
    first | refine hs_ 5 ?_ | (refine hr_ 5 ?_ ?_ ?_;rotate_left;(intro W hW;go_simp;try with_reducible rfl))
    first | refine hs_ 6 ?_ | (refine hr_ 6 ?_ ?_ ?_;rotate_left;(intro W hW;go_simp;try with_reducible rfl))
    first | refine hs_ 7 ?_ | (refine hr_ 7 ?_ ?_ ?_;rotate_left;(intro W hW;go_simp;try with_reducible rfl))
    first | refine hs_ 8 ?_ | (refine hr_ 8 ?_ ?_ ?_;rotate_left;(intro W hW;obtain ⟨x0q,x1q,x2q,y0q,y1q,y2q,y3q,y4q,y5q⟩:=cb9 hW.low x0 x1 x2 y0 y1 y2 y3 y4 y5;obtain ⟨s0q,s1q,s2q,s3q,s4q⟩:=hW.lt.ls.lb.ks;rw [HGE.out] at s0q;have gq:=HGC.out _ hW.lt.ls.lb;go_simp;try with_reducible rfl))
    first | refine hs_ 9 ?_ | (refine hr_ 9 ?_ ?_ ?_;rotate_left;(intro W hW;go_simp;try with_reducible rfl))
    first | refine hs_ 10 ?_ | (refine hr_ 10 ?_ ?_ ?_;rotate_left;(intro W hW;obtain ⟨x0q,x1q,x2q,y0q,y1q,y2q,y3q,y4q,y5q⟩:=cb9 hW.low x0 x1 x2 y0 y1 y2 y3 y4 y5;obtain ⟨s0q,s1q,s2q,s3q,s4q⟩:=hW.lt.ls.lb.ks;rw [HGE.out] at s0q;have gq:=HGC.out _ hW.lt.ls.lb;go_simp;try with_reducible rfl))
    first | refine hs_ 11 ?_ | (refine hr_ 11 ?_ ?_ ?_;rotate_left;(intro W hW;go_simp;try with_reducible rfl))
    first | refine hs_ 12 ?_ | (refine hr_ 12 ?_ ?_ ?_;rotate_left;(intro W hW;go_simp;try with_reducible rfl))
    first | refine hs_ 13 ?_ | (refine hr_ 13 ?_ ?_ ?_;rotate_left;(intro W hW;go_simp;try with_reducible rfl))
    first | refine hs_ 14 ?_ | (refine hr_ 14 ?_ ?_ ?_;rotate_left;(intro W hW;go_simp;try with_reducible rfl))
    first | refine hs_ 15 ?_ | (refine hr_ 15 ?_ ?_ ?_;rotate_left;(intro W hW;go_simp;try with_reducible rfl))
    first | refine hs_ 16 ?_ | (refine hr_ 16 ?_ ?_ ?_;rotate_left;(intro W hW;obtain ⟨x0q,x1q,x2q,y0q,y1q,y2q,y3q,y4q,y5q⟩:=cb9 hW.low x0 x1 x2 y0 y1 y2 y3 y4 y5;obtain ⟨s0q,s1q,s2q,s3q,s4q⟩:=hW.lt.ls.lb.ks;rw [HGE.out] at s0q;have gq:=HGC.out _ hW.lt.ls.lb;go_simp;try with_reducible rfl))
    refine ho_ 17 fun K hK=>?_;go_simp
    refine (hasInt_no A8 c8 _ ts[j].g _ (hHeld.lt.ls.rd (A8,ql) (by simp)) hql2 hqn).mono ?_;rintro e wq1 ⟨rfl,hb1⟩
    replace hHeld:=hHeld.to hb1
    clear hb1;refine hk_ hK (hHeld) fun hHeld=>?_;clear hK K;first | refine hs_ 18 ?_ | (refine hr_ 18 ?_ ?_ ?_;rotate_left;(intro W hW;go_simp;try with_reducible rfl))
    first | refine hs_ 19 ?_ | (refine hr_ 19 ?_ ?_ ?_;rotate_left;(intro W hW;go_simp;try with_reducible rfl))
    first | refine hs_ 20 ?_ | (refine hr_ 20 ?_ ?_ ?_;rotate_left;(intro W hW;obtain ⟨k0q,k1q,k2q,k3q,k4q⟩:=hW.lt.ls.lb.kk;go_simp;try with_reducible rfl))
    first | refine hs_ 21 ?_ | (refine hr_ 21 ?_ ?_ ?_;rotate_left;(intro W hW;go_simp;try with_reducible rfl))
    first | refine hs_ 22 ?_ | (refine hr_ 22 ?_ ?_ ?_;rotate_left;(intro W hW;obtain ⟨x0q,x1q,x2q,y0q,y1q,y2q,y3q,y4q,y5q⟩:=cb9 hW.low x0 x1 x2 y0 y1 y2 y3 y4 y5;obtain ⟨s0q,s1q,s2q,s3q,s4q⟩:=hW.lt.ls.lb.ks;rw [HGE.out] at s0q;have gq:=HGC.out _ hW.lt.ls.lb;go_simp;try with_reducible rfl))
    first | refine hs_ 24 ?_ | (refine hr_ 24 ?_ ?_ ?_;rotate_left;(intro W hW;go_simp;try with_reducible rfl))
    first | refine hs_ 25 ?_ | (refine hr_ 25 ?_ ?_ ?_;rotate_left;(intro W hW;obtain ⟨x0q,x1q,x2q,y0q,y1q,y2q,y3q,y4q,y5q⟩:=cb9 hW.low x0 x1 x2 y0 y1 y2 y3 y4 y5;obtain ⟨s0q,s1q,s2q,s3q,s4q⟩:=hW.lt.ls.lb.ks;rw [HGE.out] at s0q;have gq:=HGC.out _ hW.lt.ls.lb;go_simp;try with_reducible rfl))
    refine ho_ 23 fun K hK=>?_;go_simp
    refine (HWR.out v ts[j].g _ hHeld.lt.ls.lb.ck).mono ?_;rintro e wq2 ⟨Aw,cw,rfl,ho2,hb2⟩;have rw9:=own_rd ho2
    replace hHeld:=hHeld.to hb2
    clear ho2 hb2;refine hk_ hK (hHeld) fun hHeld=>?_;clear hK K;refine ho_ 26 fun K hK=>?_;go_simp
    refine (hasInt_yes Aw cw _ ts[j].a _ rw9 (HWL.out _) hmw).mono ?_;rintro e wq3 ⟨rfl,hb3⟩
    replace hHeld:=hHeld.to hb3
    clear hb3;clear rw9;refine hk_ hK (hHeld) fun hHeld=>?_;clear hK K;first | refine hs_ 27 ?_ | (refine hr_ 27 ?_ ?_ ?_;rotate_left;(intro W hW;go_simp;try with_reducible rfl))
    first | refine hs_ 28 ?_ | (refine hr_ 28 ?_ ?_ ?_;rotate_left;(intro W hW;go_simp;try with_reducible rfl))
    first | refine hs_ 29 ?_ | (refine hr_ 29 ?_ ?_ ?_;rotate_left;(intro W hW;go_simp;try with_reducible rfl))
    first | refine hs_ 30 ?_ | (refine hr_ 30 ?_ ?_ ?_;rotate_left;(intro W hW;go_simp;try with_reducible rfl))
    first | refine hs_ 31 ?_ | (refine hr_ 31 ?_ ?_ ?_;rotate_left;(intro W hW;go_simp;try with_reducible rfl))
    first | refine hs_ 32 ?_ | (refine hr_ 32 ?_ ?_ ?_;rotate_left;(intro W hW;obtain ⟨x0q,x1q,x2q,y0q,y1q,y2q,y3q,y4q,y5q⟩:=cb9 hW.low x0 x1 x2 y0 y1 y2 y3 y4 y5;obtain ⟨s0q,s1q,s2q,s3q,s4q⟩:=hW.lt.ls.lb.ks;rw [HGE.out] at s0q;have gq:=HGC.out _ hW.lt.ls.lb;go_simp;try with_reducible rfl))
    first | refine hs_ 33 ?_ | (refine hr_ 33 ?_ ?_ ?_;rotate_left;(intro W hW;go_simp;try with_reducible rfl))
    first | refine hs_ 34 ?_ | (refine hr_ 34 ?_ ?_ ?_;rotate_left;(intro W hW;go_simp;try with_reducible rfl))
    first | refine hs_ 35 ?_ | (refine hr_ 35 ?_ ?_ ?_;rotate_left;(intro W hW;go_simp;try with_reducible rfl))
    first | refine hs_ 36 ?_ | (refine hr_ 36 ?_ ?_ ?_;rotate_left;(intro W hW;obtain ⟨x0q,x1q,x2q,y0q,y1q,y2q,y3q,y4q,y5q⟩:=cb9 hW.low x0 x1 x2 y0 y1 y2 y3 y4 y5;obtain ⟨s0q,s1q,s2q,s3q,s4q⟩:=hW.lt.ls.lb.ks;rw [HGE.out] at s0q;have gq:=HGC.out _ hW.lt.ls.lb;go_simp;try with_reducible rfl))
    first | refine hs_ 37 ?_ | (refine hr_ 37 ?_ ?_ ?_;rotate_left;(intro W hW;go_simp;try with_reducible rfl))
    first | refine hs_ 38 ?_ | (refine hr_ 38 ?_ ?_ ?_;rotate_left;(intro W hW;go_simp;try with_reducible rfl))
    first | refine hs_ 39 ?_ | (refine hr_ 39 ?_ ?_ ?_;rotate_left;(intro W hW;obtain ⟨x0q,x1q,x2q,y0q,y1q,y2q,y3q,y4q,y5q⟩:=cb9 hW.low x0 x1 x2 y0 y1 y2 y3 y4 y5;obtain ⟨s0q,s1q,s2q,s3q,s4q⟩:=hW.lt.ls.lb.ks;rw [HGE.out] at s0q;have gq:=HGC.out _ hW.lt.ls.lb;go_simp;try with_reducible rfl))
    first | refine hs_ 40 ?_ | (refine hr_ 40 ?_ ?_ ?_;rotate_left;(intro W hW;go_simp;try with_reducible rfl))
    first | refine hs_ 41 ?_ | (refine hr_ 41 ?_ ?_ ?_;rotate_left;(intro W hW;obtain ⟨x0q,x1q,x2q,y0q,y1q,y2q,y3q,y4q,y5q⟩:=cb9 hW.low x0 x1 x2 y0 y1 y2 y3 y4 y5;obtain ⟨s0q,s1q,s2q,s3q,s4q⟩:=hW.lt.ls.lb.ks;rw [HGE.out] at s0q;have gq:=HGC.out _ hW.lt.ls.lb;go_simp;try with_reducible rfl))
    first | refine hs_ 42 ?_ | (refine hr_ 42 ?_ ?_ ?_;rotate_left;(intro W hW;go_simp;try with_reducible rfl))
    first | refine hs_ 43 ?_ | (refine hr_ 43 ?_ ?_ ?_;rotate_left;(intro W hW;obtain ⟨x0q,x1q,x2q,y0q,y1q,y2q,y3q,y4q,y5q⟩:=cb9 hW.low x0 x1 x2 y0 y1 y2 y3 y4 y5;obtain ⟨s0q,s1q,s2q,s3q,s4q⟩:=hW.lt.ls.lb.ks;rw [HGE.out] at s0q;have gq:=HGC.out _ hW.lt.ls.lb;go_simp;try with_reducible rfl))
    first | refine hs_ 44 ?_ | (refine hr_ 44 ?_ ?_ ?_;rotate_left;(intro W hW;go_simp;try with_reducible rfl))
    first | refine hs_ 45 ?_ | (refine hr_ 45 ?_ ?_ ?_;rotate_left;(intro W hW;go_simp;try with_reducible rfl))
    first | refine hs_ 46 ?_ | (refine hr_ 46 ?_ ?_ ?_;rotate_left;(intro W hW;go_simp;try with_reducible rfl))
    first | refine hs_ 47 ?_ | (refine hr_ 47 ?_ ?_ ?_;rotate_left;(intro W hW;go_simp;try with_reducible rfl))
    refine wpAnyH_done (by kernel_rfl) ?_ _;have HX9:=Lib.hid hHeld;clear hHeld;go_wp2_with fail
    go_roundg (ts.length - (j + 1))
    case measure=>omega
    case rel=>exact ⟨j + 1,by omega,rfl,by go_num,HX9.out.lt⟩
  ·
   obtain rfl : j = ts.length:=by omega
   have HL9:=Lib.hid HL9.out;go_wp2_with fail
   go_loopg [10] k.globals.length (fun l i wr=>∃ g : Nat,g ≤ k.globals.length ∧ l = k.globals.length - g ∧ i = .int .i64 g ∧ LT w k gk gs v u A5 ts [(A8,ql)] wr)
   case atStart=>exact ⟨0,by omega,by omega,rfl,HL9.out⟩
   case round =>
    clear HL9;obtain ⟨g,hg,rfl,rfl,hs4⟩:=hrel;have HL9:=Lib.hid hs4;clear hs4;obtain ⟨s0,s1,s2,s3,s4⟩:=HL9.out.ls.lb.ks;by_cases hgl2 : g < k.globals.length
    ·
     have z1 : (g : Int) < (k.globals.length : Int):=by omega
     by_cases hz : (wrL (g : Int) ts).length = 0
     ·
      have e1 : (((wrL (g : Int) ts).length : Int) == 0) = true:=by simp [hz]
      have HZ:=Lib.hid hz;clear hz;go_wp2_with fail
      clear s0 s1 s2 s3 s4;refine wp_region_held_drew (S:=fun w'=>LT w k gk gs v u A5 ts [(A8,ql)] w') (by kernel_rfl) (HL9.out.drew) (fun hHeld=>?_);first | refine hs_ 0 ?_ | (refine hr_ 0 ?_ ?_ ?_;rotate_left;(intro W hW;go_simp;try with_reducible rfl))
      first | refine hs_ 1 ?_ | (refine hr_ 1 ?_ ?_ ?_;rotate_left;(intro W hW;go_simp;try with_reducible rfl))
      first | refine hs_ 3 ?_ | (refine hr_ 3 ?_ ?_ ?_;rotate_left;(intro W hW;obtain ⟨k0q,k1q,k2q,k3q,k4q⟩:=hW.ls.lb.kk;go_simp;try with_reducible rfl))
      first | refine hs_ 4 ?_ | (refine hr_ 4 ?_ ?_ ?_;rotate_left;(intro W hW;go_simp;try with_reducible rfl))
      refine ho_ 2 fun K hK=>?_;go_simp
      refine (hasInt_any A8 c8 _ g _ (hHeld.ls.rd (A8,ql) (by simp)) hql2).mono ?_;rintro e wq6 ⟨rfl,hb6⟩
      replace hHeld:=hHeld.to hb6
      clear hb6;rw [HQE.out g hgl2,decide_eq_true HZ.out];refine hk_ hK (hHeld) fun hHeld=>?_;clear hK K;refine ho_ 5 fun K hK=>?_;go_simp
      refine (HWR.out v g _ hHeld.ls.lb.ck).mono ?_;rintro e wq7 ⟨As,cs,rfl,ho7,hb7⟩;have rs:=own_rd ho7
      replace hHeld:=hHeld.to hb7
      clear ho7 hb7;clear rs;refine hk_ hK (hHeld) fun hHeld=>?_;clear hK K;first | refine hs_ 6 ?_ | (refine hr_ 6 ?_ ?_ ?_;rotate_left;(intro W hW;go_simp;try with_reducible rfl))
      first | refine hs_ 7 ?_ | (refine hr_ 7 ?_ ?_ ?_;rotate_left;(intro W hW;go_simp;try with_reducible rfl))
      first | refine hs_ 8 ?_ | (refine hr_ 8 ?_ ?_ ?_;rotate_left;(intro W hW;go_simp;try with_reducible rfl))
      refine wpAnyH_done (by kernel_rfl) ?_ _;have HX9:=Lib.hid hHeld;clear hHeld;go_wp2_with fail
      go_roundg (k.globals.length - (g + 1))
      case measure=>omega
      case rel=>exact ⟨g + 1,by omega,rfl,by go_num,HX9.out⟩
     ·
      have e1 : (((wrL (g : Int) ts).length : Int) == 0) = false:=by simp;exact fun h=>hz (by rw [h];rfl)
      have HZ:=Lib.hid hz;clear hz;go_wp2_with fail
      clear s0 s1 s2 s3 s4;refine wp_region_held_drew (S:=fun w'=>LT w k gk gs v u A5 ts [(A8,ql)] w') (by kernel_rfl) (HL9.out.drew) (fun hHeld=>?_);first | refine hs_ 0 ?_ | (refine hr_ 0 ?_ ?_ ?_;rotate_left;(intro W hW;go_simp;try with_reducible rfl))
      first | refine hs_ 1 ?_ | (refine hr_ 1 ?_ ?_ ?_;rotate_left;(intro W hW;go_simp;try with_reducible rfl))
      first | refine hs_ 3 ?_ | (refine hr_ 3 ?_ ?_ ?_;rotate_left;(intro W hW;obtain ⟨k0q,k1q,k2q,k3q,k4q⟩:=hW.ls.lb.kk;go_simp;try with_reducible rfl))
      first | refine hs_ 4 ?_ | (refine hr_ 4 ?_ ?_ ?_;rotate_left;(intro W hW;go_simp;try with_reducible rfl))
      refine ho_ 2 fun K hK=>?_;go_simp
      refine (hasInt_any A8 c8 _ g _ (hHeld.ls.rd (A8,ql) (by simp)) hql2).mono ?_;rintro e wq8 ⟨rfl,hb8⟩
      replace hHeld:=hHeld.to hb8
      clear hb8;rw [HQE.out g hgl2,decide_eq_false HZ.out];refine hk_ hK (hHeld) fun hHeld=>?_;clear hK K;refine ho_ 5 fun K hK=>?_;go_simp
      refine (HWR.out v g _ hHeld.ls.lb.ck).mono ?_;rintro e wq9 ⟨As,cs,rfl,ho9,hb9⟩;have rs:=own_rd ho9
      replace hHeld:=hHeld.to hb9
      clear ho9 hb9;clear rs;refine hk_ hK (hHeld) fun hHeld=>?_;clear hK K;first | refine hs_ 6 ?_ | (refine hr_ 6 ?_ ?_ ?_;rotate_left;(intro W hW;go_simp;try with_reducible rfl))
      first | refine hs_ 7 ?_ | (refine hr_ 7 ?_ ?_ ?_;rotate_left;(intro W hW;go_simp;try with_reducible rfl))
      first | refine hs_ 8 ?_ | (refine hr_ 8 ?_ ?_ ?_;rotate_left;(intro W hW;go_simp;try with_reducible rfl))
      refine wpAnyH_done (by kernel_rfl) ?_ _;have HX9:=Lib.hid hHeld;clear hHeld;go_wp2_with fail
      go_roundg (k.globals.length - (g + 1))
      case measure=>omega
      case rel=>exact ⟨g + 1,by omega,rfl,by go_num,HX9.out⟩
    ·
     obtain rfl : g = k.globals.length:=by omega
     go_wp2_with fail
     go_ret
     exact ⟨rfl,HL9.out.ls.lb.low⟩
theorem lifted (os : Os) (started : os.Started) (H : Type) (enc : TypeId × Value → H) :
  ReturnsInHanded {} Tryz.checked os 10 .any (Rows.fnTouchesSpec.pre6 enc Tryz.prog Tryz.f10 Rows.fnTouchesRow.domain false) (Rows.fnTouchesSpec.post enc Tryz.prog Tryz.f10 false true false false):=by
 refine returnsInHanded_of_change (C:=Tryz.checked) own started (by kernel_rfl) Tryz.func10
  (ChangeSpec.witness6 (enc:=enc) (C:=Tryz.checked) false ⟨#[],#[.slice none 0 0],[]⟩ 8 (by kernel_rfl) (by kernel_rfl) (by kernel_rfl) (by kernel_rfl)) ?_
 intro W base args ds gs before hval0 hW hcnd _;have hval : ∀ (j : Nat) t v,Tryz.f10.params[j]? = some t → args[j]? = some v → Value.okWide Tryz.prog W .any base t v:=hval0;have hW':=hW;obtain ⟨p,q,hA0,hV,rfl,hfz,hnd⟩:=hW;have hA : DataW.TrodAll enc Tryz.prog W 0 (fun _=>true) true Tryz.f10.params.toList args.toList ds p:=hA0;rw [Tryz.params10] at hA hval;obtain ⟨v0,vs0,d0,ds0,p0,q0,hargs,rfl,rfl,h0,r0⟩:=trodAll_cons hA;obtain ⟨rfl,rfl,rfl⟩:=trodAll_nil r0;obtain rfl : args = #[v0]:=by cases args;simp_all
 have key : ∃ (A : Option Addr) (c : Nat) (zs : List UInt8),v0 = .slice A zs.length c ∧ Rd W W.heap.size A (bytesV zs) ∧ zs.length ≤ 9223372036854775807:=by
  obtain ⟨fuel,h0⟩:=h0;rw [slice_cells Tryz.underlying22 (hval 0 22 v0 rfl rfl)] at h0;obtain ⟨A,c,zs,e,hr,hn⟩:=rd_bytes h0;injection e with e;exact ⟨A,c,zs,e,hr,hn⟩
 obtain ⟨A,c,zs,rfl,hr,hn⟩:=key;refine (walk zs A c W hr hn).mono fun e W' ⟨he,hb⟩=>?_;subst he;exact ⟨_,rfl,post_of_law laidOut rfl Tryz.underlying4 rfl (by kernel_rfl) (fun ds hds=>by
  match ds,hds with
  | [d],_=>exact ⟨rfl,rfl,rfl⟩) hW' hb⟩
theorem over : Rows.fnTouchesRow.holds Tryz.pinned (OpenSpec.ofChange Rows.fnTouchesSpec) :=
 OpenClaim.holds_of_wide 10 Tryz.f10 rfl rfl rfl rfl rfl rfl rfl ⟨rfl,rfl,rfl,rfl,rfl⟩ rfl rfl rfl rfl rfl (by kernel_rfl) Tryz.func10 (by kernel_rfl)
  (of_decide_eq_true (by kernel_rfl)) (by unfold Func.isWrapper;first | (rw [if_pos (by decide +kernel)];kernel_rfl) | (rw [if_neg (by decide +kernel)];exact ⟨rfl,rfl⟩))
  (fun os started H enc _=>lifted os started H enc)
theorem proved : Rows.FnTouchesSaid:=over
#print axioms proved
end Go.Proofs.YtkgoajnnkimkaaaGreat.fnTouches
