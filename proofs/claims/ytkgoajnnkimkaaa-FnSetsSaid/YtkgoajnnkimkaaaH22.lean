/- Contract of the reference's l08Stmts: instructions of drawn statements. -/
import Derived.Test.YtkgoajnnkimkaaaH21
set_option linter.unusedSimpArgs false
set_option linter.unusedVariables false
set_option maxRecDepth 100000
set_option maxHeartbeats 16000000
namespace Go.Proofs.Ytkgoajnnkimkaaa
open Go.ChangeShapes Go.WideShapes Go.ChangeAt Go.RowKit
theorem cell_low {w0 w : World} (hb : Below w0.heap.size w0 w) {a : Addr} {v : Value} (h : w0.cell? a = some v) : w.cell? a = some v:=(hb.cell (World.block_lt_of_cell? w0 a h)).trans h
def EmSaid (nm : List ByteArray) (bs : List (List St)) (P : PA) (w0 : World) (ss : List St) : Prop:=∀ (w : World) (ge base gr lo hi d : Nat) (v : Value) (xs : List Is) (A : Option Addr) (c : Nat) (css : List (List Value)),
 Below w0.heap.size w0 w → w0.heap.size ≤ ge → Em w ge base gr P xs A c css → St.GL nm d ss → StsIn w0 lo hi ss v → hi ≤ w0.heap.size → xs.length + 2 * St.cntL ss ≤ 90000 →
 Calls Try.prog 60 #[.pointer (some ⟨ge,0,none⟩),v] w fun e w'=>e = .returned (.tuple #[]) ∧ EmNew w ge base gr P (xs ++ emitL nm xs.length ss) w'
def PCell (ge : Nat) (P : PA) (W : World) : Prop:=W.cell? ⟨ge,0,none⟩ = some (.slice P.gA 4 P.gc) ∧ W.cell? ⟨ge,1,none⟩ = some (.slice P.lA 3 P.lc) ∧ W.cell? ⟨ge,2,none⟩ = some (.slice P.pA P.pn P.pc)
theorem Em.cells {W : World} {ge base gr : Nat} {P : PA} {xs : List Is} {A : Option Addr} {c : Nat} {css : List (List Value)} (h : Em W ge base gr P xs A c css) : PCell ge P W:=⟨h.facts.1 0 _ rfl,h.facts.1 1 _ rfl,h.facts.1 2 _ rfl⟩
theorem SBox.fr {S : Nat → Prop} {b : Nat} {kd : Int} {x : St} {A Ab Ae : Option Addr} {c cb ce : Nat} {W W' : World} (h : SBox b kd x A Ab Ae c cb ce W) (hf : Fr S W W') (hb : ¬ S b) : SBox b kd x A Ab Ae c cb ce W' :=
 ⟨hf.cell h.1 hb,hf.cell h.2.1 hb,hf.cell h.2.2.1 hb,hf.cell h.2.2.2.1 hb,hf.cell h.2.2.2.2.1 hb,hf.cell h.2.2.2.2.2.1 hb,hf.cell h.2.2.2.2.2.2.1 hb,hf.cell h.2.2.2.2.2.2.2 hb⟩
theorem zero_kids (W : World) (B : Nat) (A : Option Addr) : KidsAt W B A zeroT.kids:=kids_nil W B A
theorem l08Stmts_of {nm : List ByteArray} {bs : List (List St)} {P : PA} {w0 : World} (hp : ProgAt w0 P.gA P.lA P.pA nm bs) (hpn : P.pn = nm.length) (hg : PG nm bs) (ss : List St) (ih : ∀ zs : List St,St.cntL zs < St.cntL ss → EmSaid nm bs P w0 zs) : EmSaid nm bs P w0 ss:=by
 intro w ge base gr lo hi d v xs A1 c1 css hb0 hge hE hgl hst hhi hcnt;obtain ⟨A0,c0,rfl⟩:=hst.form;have HI:=Lib.hid ih;have HG:=Lib.hid (GL_get ss hgl);have hsl:=cntL_len ss;have HS:=Lib.hid hst;have HPN:=Lib.hid hpn;have HP:=Lib.hid (fun V (h : Below w0.heap.size w0 V)=>hp.below h);have HPG:=Lib.hid (fun V (h : Below w0.heap.size w0 V) t=>(show Calls Try.prog 83 #[.slice P.gA 4 P.gc,.string t] V fun e w'=>e = .returned (.int .i64 (placeOf globL t)) ∧ V = w' from placeOf_s P.gA P.gc globL t V (hp.below h).g (by simp [globL])));have HPL:=Lib.hid (fun V (h : Below w0.heap.size w0 V) t=>(show Calls Try.prog 83 #[.slice P.lA 3 P.lc,.string t] V fun e w'=>e = .returned (.int .i64 (placeOf lockL t)) ∧ V = w' from placeOf_s P.lA P.lc lockL t V (hp.below h).l (by simp [lockL])));have HPP:=Lib.hid (fun V (h : Below w0.heap.size w0 V) t=>(show Calls Try.prog 82 #[.agg #[.slice P.gA 4 P.gc,.slice P.lA 3 P.lc,.slice P.pA P.pn P.pc],.string t] V fun e w'=>e = .returned (.int .i64 (placeOf nm t)) ∧ Below V.heap.size V w' from by rw [HPN.out];exact procAt_any V (hp.below h) hg t));have HE0:=Lib.hid (show EmNew w ge base gr P (xs ++ emitL nm xs.length (ss.take 0)) w from by simp only [List.take_zero,emitL,List.append_nil];exact EmNew.same hE);have HB0:=Lib.hid hb0;have HL0:=Lib.hid (fun V (h : Fr (fun b=>b = ge ∨ b = gr) w V)=>hE.low0 h hb0 hge);have HNEG:=Lib.hid (show ge < base ∧ base ≤ w.heap.size from ⟨hE.low,hE.high⟩);clear ih hgl hst hp hg hE hb0 hpn
 go_enter Try.func60, Try.ntmps60
 go_wp2_with fail
 go_loopg [4,5,6,7,8] ss.length (fun m i sp v6 v7 v8 wr=>∃ j : Nat,j ≤ ss.length ∧ m = ss.length - j ∧ i = .int .i64 j ∧ EmNew w ge base gr P (xs ++ emitL nm xs.length (ss.take j)) wr)
 case atStart=>exact ⟨0,by omega,by omega,rfl,HE0.out⟩
 case round =>
  clear HE0;obtain ⟨j,hj,rfl,rfl,hEN⟩:=hrel;have HEN:=Lib.hid hEN;clear hEN;by_cases hlt : j < ss.length
  ·
   have y1 : (j : Int) < (ss.length : Int):=by omega
   have y2 : (0 : Int) ≤ (j : Int):=by omega
   obtain ⟨gr1,A2,c2,css2,hgr1,hE1,hF1⟩:=HEN.out;have hD:=HL0.out _ hF1;have hsub:=subs_cnt ss[j];have hle:=cntL_takeS ss j hlt;have hec:=emitL_cnt nm (ss.take j) xs.length;have hszD:=hD.size;obtain ⟨ad,cap,A,c,Ab,cb,Ae,ce,m,n',e,eo,es,_,_,k0,k1,k2,k3,k4,k5,k6,k7,q1,q2,q3,q4,hk,hb,he⟩:=HS.out.get hlt;injection e with e1 e2 e3;subst e1 e3;have k0:=cell_low hD k0;have k1:=cell_low hD k1;have k2:=cell_low hD k2;have k3:=cell_low hD k3;have k4:=cell_low hD k4;have k5:=cell_low hD k5;have k6:=cell_low hD k6;have k7:=cell_low hD k7;have HTK:=Lib.hid (show xs ++ emitL nm xs.length (ss.take (j + 1)) = (xs ++ emitL nm xs.length (ss.take j)) ++ emitS nm (xs ++ emitL nm xs.length (ss.take j)).length ss[j] from by rw [emitL_take hlt,List.append_assoc,List.length_append]);have hyl : (xs ++ emitL nm xs.length (ss.take j)).length ≤ xs.length + 2 * St.cntL (ss.take j):=by rw [List.length_append];omega
   have hgx:=HG.out j hlt;generalize hx : ss[j] = x at k0 k1 k2 k3 k4 k5 k6 k7 hk hb he hsub hle hgx HTK;clear hx HEN;generalize xs ++ emitL nm xs.length (ss.take j) = ys at hE1 HTK hyl;have hEK:=emit_kind hgx ys.length;obtain ⟨hk18,_,_,_,hg3,d',hgb,hge'⟩:=G_facts hgx;have HHB:=Lib.hid (fun V geV baseV grV zs Az cz cssz h1 h2 h3 h4=>HI.out x.body (by omega) V geV baseV grV m n' d' (.slice Ab x.body.length cb) zs Az cz cssz h1 h2 h3 hgb hb (by omega) h4);have HHE:=Lib.hid (fun V geV baseV grV zs Az cz cssz h1 h2 h3 h4=>HI.out x.els (by omega) V geV baseV grV m n' d' (.slice Ae x.els.length ce) zs Az cz cssz h1 h2 h3 hge' he (by omega) h4);have HCP:=Lib.hid (fun V (hV : Below w0.heap.size w0 V) (h3 : x.kind ≤ 3)=>l03Copy_any x.term (hg3 h3).b w0.heap.size A c V ((hk.sub (by omega) high_low).below hV));have HEB:=Lib.hid (fun a=>emitL_cnt nm x.body a);have HEE:=Lib.hid (fun a=>emitL_cnt nm x.els a);clear hk hb he hgb hge' hg3 hgx eo es;have HSB:=Lib.hid (fun kd=>sbox wr kd x A Ab Ae c cb ce);have HSL:=Lib.hid (fun kd=>below_alloc0 wr (.cells #[.int .i64 kd,.string x.name,.int .i64 x.term.kind,.int .i64 x.term.num,.string x.term.name,.slice A x.term.kids.length c,.slice Ab x.body.length cb,.slice Ae x.els.length ce] 106));have HE1:=Lib.hid hE1;have HD:=Lib.hid hD;have HF1:=Lib.hid (show (gr1 = gr ∨ w.heap.size ≤ gr1) ∧ Fr (fun b=>b = ge ∨ b = gr) w wr from ⟨hgr1,hF1⟩);clear hE1 hD hgr1 hF1;generalize hkd : x.kind = kd at k0 hk18 hEK HCP;clear hkd;have HEK:=Lib.hid hEK;clear hEK;rcases (show kd = 1 ∨ kd = 2 ∨ kd = 3 ∨ kd = 4 ∨ kd = 5 ∨ kd = 6 ∨ kd = 7 ∨ kd = 8 by omega) with rfl | rfl | rfl | rfl | rfl | rfl | rfl | rfl
   ·
    have hsb:=HSB.out 1;have hsl0:=HSL.out 1;have hE2:=HE1.out.to hsl0;have hD2:=(HD.out).trans (hsl0.mono (by omega));obtain ⟨s0,s1,s2,s3,s4,s5,s6,s7⟩:=id hsb;obtain ⟨p0,p1,p2⟩:=id hE2.cells;have hne : wr.heap.size ≠ ge ∧ wr.heap.size ≠ gr1:=⟨by have:=HE1.out.low;have:=HE1.out.high;omega,by have:=HE1.out.low;have:=HE1.out.high;have:=HE1.out.grl;omega⟩
    have HNE:=Lib.hid hne;go_wp2_with fail
    generalize wr.alloc (.cells #[.int .i64 1,.string x.name,.int .i64 x.term.kind,.int .i64 x.term.num,.string x.term.name,.slice A x.term.kids.length c,.slice Ab x.body.length cb,.slice Ae x.els.length ce] 106) = W at hsb hsl0 hE2 hD2 s0 s1 s2 s3 s4 s5 s6 s7 p0 p1 p2 ⊢;clear k0 k1 k2 k3 k4 k5 k6 k7 HSB HSL hne;have HSB:=Lib.hid hsb;have HE2:=Lib.hid hE2;have HD2:=Lib.hid hD2;have HWL:=Lib.hid hsl0;clear hsb hE2 hD2 hsl0;refine wp_region_held_drew (S:=fun w'=>PCell ge P w' ∧ SBox wr.heap.size 1 x A Ab Ae c cb ce w') (by kernel_rfl) (⟨⟨p0,p1,p2⟩,HSB.out⟩) (fun hHeld=>?_);first | refine hs_ 0 ?_ | (refine hr_ 0 ?_ ?_ ?_;rotate_left;(intro W hW;obtain ⟨⟨p0q,p1q,p2q⟩,s0q,s1q,s2q,s3q,s4q,s5q,s6q,s7q⟩:=id hW;go_simp;try with_reducible rfl))
    first | refine hs_ 1 ?_ | (refine hr_ 1 ?_ ?_ ?_;rotate_left;(intro W hW;obtain ⟨⟨p0q,p1q,p2q⟩,s0q,s1q,s2q,s3q,s4q,s5q,s6q,s7q⟩:=id hW;go_simp;try with_reducible rfl))
    first | refine hs_ 2 ?_ | (refine hr_ 2 ?_ ?_ ?_;rotate_left;(intro W hW;obtain ⟨⟨p0q,p1q,p2q⟩,s0q,s1q,s2q,s3q,s4q,s5q,s6q,s7q⟩:=id hW;go_simp;try with_reducible rfl))
    first | refine hs_ 3 ?_ | (refine hr_ 3 ?_ ?_ ?_;rotate_left;(intro W hW;obtain ⟨⟨p0q,p1q,p2q⟩,s0q,s1q,s2q,s3q,s4q,s5q,s6q,s7q⟩:=id hW;go_simp;try with_reducible rfl))
    first | refine hs_ 4 ?_ | (refine hr_ 4 ?_ ?_ ?_;rotate_left;(intro W hW;obtain ⟨⟨p0q,p1q,p2q⟩,s0q,s1q,s2q,s3q,s4q,s5q,s6q,s7q⟩:=id hW;go_simp;try with_reducible rfl))
    first | refine hs_ 5 ?_ | (refine hr_ 5 ?_ ?_ ?_;rotate_left;(intro W hW;obtain ⟨⟨p0q,p1q,p2q⟩,s0q,s1q,s2q,s3q,s4q,s5q,s6q,s7q⟩:=id hW;go_simp;try with_reducible rfl))
    first | refine hs_ 6 ?_ | (refine hr_ 6 ?_ ?_ ?_;rotate_left;(intro W hW;obtain ⟨⟨p0q,p1q,p2q⟩,s0q,s1q,s2q,s3q,s4q,s5q,s6q,s7q⟩:=id hW;go_simp;try with_reducible rfl))
    first | refine hs_ 7 ?_ | (refine hr_ 7 ?_ ?_ ?_;rotate_left;(intro W hW;obtain ⟨⟨p0q,p1q,p2q⟩,s0q,s1q,s2q,s3q,s4q,s5q,s6q,s7q⟩:=id hW;go_simp;try with_reducible rfl))
    first | refine hs_ 9 ?_ | (refine hr_ 9 ?_ ?_ ?_;rotate_left;(intro W hW;obtain ⟨⟨p0q,p1q,p2q⟩,s0q,s1q,s2q,s3q,s4q,s5q,s6q,s7q⟩:=id hW;go_simp;try with_reducible rfl))
    first | refine hs_ 10 ?_ | (refine hr_ 10 ?_ ?_ ?_;rotate_left;(intro W hW;obtain ⟨⟨p0q,p1q,p2q⟩,s0q,s1q,s2q,s3q,s4q,s5q,s6q,s7q⟩:=id hW;go_simp;try with_reducible rfl))
    refine ho_ 8 fun K hK=>?_;go_simp
    refine (HPG.out _ HD2.out.drew x.name).mono ?_;rintro e w3 ⟨rfl,rfl⟩;refine hk_ hK (hHeld) fun hHeld=>?_;clear hK K;refine ho_ 11 fun K hK=>?_;go_simp
    refine (HCP.out _ HD2.out.drew (by omega)).mono ?_;rintro e w4 ⟨Ak,ck,rfl,hkn,hb4⟩;have hE4:=(HE2.out.to (below_drew W)).to hb4;have hS4 : PCell ge P w4 ∧ SBox wr.heap.size 1 x A Ab Ae c cb ce w4:=⟨hE4.cells,hHeld.2.to hb4⟩
    have hk4:=kids_he (P:=P) (gr:=gr1) (base:=base) hkn (show base ≤ W.heap.size from HE2.out.high) (show gr1 < W.heap.size from by have:=HE2.out.grl;have:=HE2.out.low;have:=HE2.out.high;omega) HE2.out.xlt;have HWL4:=Lib.hid (below_trans' (below_trans' HWL.out (below_drew W)) hb4);have HE4:=Lib.hid hE4;have HK4:=Lib.hid hk4;clear hkn hb4 hE4 hk4;refine hk_ hK (hS4) fun hHeld=>?_;clear hK K;first | refine hs_ 12 ?_ | (refine hr_ 12 ?_ ?_ ?_;rotate_left;(intro W hW;obtain ⟨⟨p0q,p1q,p2q⟩,s0q,s1q,s2q,s3q,s4q,s5q,s6q,s7q⟩:=id hW;go_simp;try with_reducible rfl))
    refine ho_ 13 fun K hK=>?_;go_simp
    refine (l08Put_any HE4.out (by omega) ⟨1,placeOf globL x.name,x.term,0⟩ _ _ HK4.out).mono ?_;rintro e w9 ⟨rfl,hN9⟩;obtain ⟨gr9,A9,c9,css9,hgr9,hE9,hF9⟩:=id hN9;have hS9 : PCell ge P w9 ∧ SBox wr.heap.size 1 x A Ab Ae c cb ce w9:=⟨hE9.cells,hHeld.2.fr hF9 (fun e=>e.elim HNE.out.1 HNE.out.2)⟩
    have HN9:=Lib.hid hN9;clear hN9 hgr9 hE9 hF9;refine hk_ hK (hS9) fun hHeld=>?_;clear hK K;refine wpAnyH_done (by kernel_rfl) ?_ _;have HFI:=Lib.hid (show EmNew w ge base gr P (xs ++ emitL nm xs.length (ss.take (j + 1))) w9 from by
     rw [HTK.out,HEK.out.1 (by simp)];exact EmNew.trans HF1.out.1 HF1.out.2 (EmNew.below (HWL4.out) HN9.out))
    clear hHeld HN9 hS9;go_wp2_with fail
    go_roundg (ss.length - (j + 1))
    case measure=>omega
    case rel=>exact ⟨j + 1,by omega,rfl,by go_num,HFI.out⟩
   ·
    have hsb:=HSB.out 2;have hsl0:=HSL.out 2;have hE2:=HE1.out.to hsl0;have hD2:=(HD.out).trans (hsl0.mono (by omega));obtain ⟨s0,s1,s2,s3,s4,s5,s6,s7⟩:=id hsb;obtain ⟨p0,p1,p2⟩:=id hE2.cells;have hne : wr.heap.size ≠ ge ∧ wr.heap.size ≠ gr1:=⟨by have:=HE1.out.low;have:=HE1.out.high;omega,by have:=HE1.out.low;have:=HE1.out.high;have:=HE1.out.grl;omega⟩
    have HNE:=Lib.hid hne;go_wp2_with fail
    generalize wr.alloc (.cells #[.int .i64 2,.string x.name,.int .i64 x.term.kind,.int .i64 x.term.num,.string x.term.name,.slice A x.term.kids.length c,.slice Ab x.body.length cb,.slice Ae x.els.length ce] 106) = W at hsb hsl0 hE2 hD2 s0 s1 s2 s3 s4 s5 s6 s7 p0 p1 p2 ⊢;clear k0 k1 k2 k3 k4 k5 k6 k7 HSB HSL hne;have HSB:=Lib.hid hsb;have HE2:=Lib.hid hE2;have HD2:=Lib.hid hD2;have HWL:=Lib.hid hsl0;clear hsb hE2 hD2 hsl0;refine (HCP.out _ HD2.out (by omega)).mono ?_;rintro e w3 ⟨Ak,ck,rfl,hkn,hb3⟩;have hE3:=HE2.out.to hb3;have hsb3:=HSB.out.to hb3;obtain ⟨s03,s13,s23,s33,s43,s53,s63,s73⟩:=id hsb3;have hk3:=kids_he (P:=P) (gr:=gr1) (base:=base) hkn (show base ≤ W.heap.size from HE2.out.high) (show gr1 < W.heap.size from by have:=HE2.out.grl;have:=HE2.out.low;have:=HE2.out.high;omega) HE2.out.xlt;have HWL3:=Lib.hid (below_trans' HWL.out hb3);have hD3:=HD2.out.trans (hb3.mono HD2.out.size);clear hkn hb3 s0 s1 s2 s3 s4 s5 s6 s7;have HPUT:=Lib.hid (l08Put_any hE3 (by omega) ⟨2,0,x.term,0⟩ Ak ck hk3);have HE3:=Lib.hid hE3;have HD3:=Lib.hid hD3;have HSB3:=Lib.hid hsb3;clear hE3 hk3 hD3 p0 p1 p2;go_wp2_with fail
    clear s03 s13 s23 s33 s43 s53 s63 s73 hsb3;refine HPUT.out.mono ?_;rintro e w4 ⟨rfl,hN4⟩;obtain ⟨gr4,A4,c4,css4,hgr4,hE4,hF4⟩:=hN4;have hsb4:=HSB3.out.fr hF4 (fun e=>e.elim HNE.out.1 HNE.out.2);obtain ⟨s04,s14,s24,s34,s44,s54,s64,s74⟩:=id hsb4;have hD4:=HE3.out.low0 hF4 HD3.out hge;have hs43:=hF4.size;have hs3w:=HWL3.out.size;have hwrl : wr.heap.size < w3.heap.size:=World.block_lt_of_cell? w3 _ HSB3.out.1;have hne4 : ¬ (wr.heap.size = ge ∨ wr.heap.size = gr4):=fun e=>e.elim HNE.out.1 (fun e=>by rcases hgr4 with h | h;exact HNE.out.2 (by omega);omega);have HNE4:=Lib.hid hne4;have HF4:=Lib.hid (show (gr4 = gr1 ∨ w3.heap.size ≤ gr4) ∧ Fr (fun b=>b = ge ∨ b = gr1) w3 w4 from ⟨hgr4,hF4⟩);have HBD:=Lib.hid (HHB.out w4 ge base gr4 _ A4 c4 css4 hD4 hge hE4 (by rw [List.length_append];simp only [List.length_cons,List.length_nil];omega));have hlb:=HEB.out (ys.length + 1);have HE4:=Lib.hid hE4;have HD4:=Lib.hid hD4;have HSB4:=Lib.hid hsb4;clear hE4 hD4 hF4 hgr4 hne4;go_wp2_with fail
    clear s04 s14 s24 s34 s44 s54 s64 s74 hsb4;refine HBD.out.mono ?_;rintro e w5 ⟨rfl,hN5⟩;have ez : (ys ++ [(⟨2,0,x.term,0⟩ : Is)]).length = ys.length + 1:=by simp
    rw [ez] at hN5;obtain ⟨gr5,A5,c5,css5,hgr5,hE5,hF5⟩:=hN5;generalize hEB : emitL nm (ys.length + 1) x.body = EB at hE5 hlb;have HEBE:=Lib.hid hEB;clear hEB ez;have hsb5:=HSB4.out.fr hF5 HNE4.out;obtain ⟨s05,s15,s25,s35,s45,s55,s65,s75⟩:=id hsb5;have hD5:=HE4.out.low0 hF5 HD4.out hge;have hs54:=hF5.size;have hne5 : ¬ (wr.heap.size = ge ∨ wr.heap.size = gr5):=fun e=>e.elim HNE.out.1 (fun e=>by rcases hgr5 with h | h;exact HNE4.out (.inr (by omega));omega);have HNE5:=Lib.hid hne5;have HF5:=Lib.hid (show (gr5 = gr4 ∨ w4.heap.size ≤ gr5) ∧ Fr (fun b=>b = ge ∨ b = gr4) w4 w5 from ⟨hgr5,hF5⟩);have HD5:=Lib.hid hD5;have HSB5:=Lib.hid hsb5;clear hD5 hF5 hgr5 hne5;by_cases hel : x.els.length = 0
    ·
     have z0 : ¬ ((x.els.length : Nat) : Int) > 0:=by omega
     have z0' : ¬ (0 : Int) < ((x.els.length : Nat) : Int):=by omega
     have HEL:=Lib.hid hel;clear hel;have e6 : ys ++ [(⟨2,0,x.term,0⟩ : Is)] ++ EB = ys ++ (⟨2,0,x.term,0⟩ : Is) :: EB:=by simp
     rw [e6] at hE5;obtain ⟨n6,hn6'⟩ : ∃ n6,(ys ++ (⟨2,0,x.term,0⟩ : Is) :: EB).length = n6:=⟨_,rfl⟩
     have hnv : n6 = ys.length + 1 + EB.length:=by rw [← hn6'];simp;omega
     have hnn6:=Lib.hid hn6';have z1 : (0 : Int) ≤ (ys.length : Int):=by omega
     have z2 : (ys.length : Int) < (n6 : Int):=by omega
     have hil : ys.length < (ys ++ (⟨2,0,x.term,0⟩ : Is) :: EB).length:=by rw [hn6'];omega
     have HNV:=Lib.hid hnv;clear hn6' hnv;have hEd:=hE5.to (below_drew w5);obtain ⟨gs,eg,⟨us,hus⟩,hfs,hNs⟩:=hEd.setTo (i:=ys.length) hil (n6 : Int);rw [get_mid,set_mid] at hNs;have ps3 : w5.cell? ⟨ge,3,none⟩ = some (.slice (some ⟨gs,0,none⟩) n6 c5):=by rw [← eg,← hnn6.out];exact hE5.facts.1 3 _ rfl
     have hus' : w5.cell? ⟨gs,ys.length * 7 + 6,none⟩ = some us:=hus;have hfs' : w5.frozen? ⟨gs,ys.length * 7 + 6,none⟩ = false:=hfs;have HNS:=Lib.hid hNs;clear hus hfs hNs hEd eg;go_wp2_with fail
     go_still_tail 12,(by kernel_rfl)
     change wpList _ _ _ _ _ w5.drew
     clear hE5 hil e6;go_wp2_with fail
     have HFI:=Lib.hid (show EmNew w ge base gr P (xs ++ emitL nm xs.length (ss.take (j + 1))) (w5.drew.setCell ⟨gs,ys.length * 7 + 6,none⟩ (.int .i64 (n6 : Int))) from by
      have hf:=EmNew.trans HF1.out.1 HF1.out.2 (EmNew.below HWL3.out (EmNew.trans HF4.out.1 HF4.out.2 (EmNew.trans HF5.out.1 HF5.out.2 (EmNew.below (below_drew w5) HNS.out))));rw [HTK.out,HEK.out.2.2.2.2.2.2.2.1 (by simp) HEL.out,HEBE.out,← HNV.out];exact hf)
     go_wp2_with fail
     go_roundg (ss.length - (j + 1))
     case measure=>omega
     case rel=>exact ⟨j + 1,by omega,rfl,by go_num,HFI.out⟩
    ·
     have z0 : (0 : Int) < ((x.els.length : Nat) : Int):=by omega
     have HEL:=Lib.hid hel;clear hel;obtain ⟨q,hq⟩ : ∃ q,(ys ++ [(⟨2,0,x.term,0⟩ : Is)] ++ EB).length = q:=⟨_,rfl⟩
     have hqv : q = ys.length + 1 + EB.length:=by rw [← hq];simp;omega
     have hput:=l08Put_any hE5 (by rw [hq];omega) ⟨3,0,zeroT,0⟩ none 0 (zero_kids _ _ none);rw [hq] at hput;have HPUT5:=Lib.hid hput;have HQV:=Lib.hid hqv;clear hE5 hput hq hqv;go_wp2_with fail
     clear s05 s15 s25 s35 s45 s55 s65 s75 hsb5;refine HPUT5.out.mono ?_;rintro e w6 ⟨rfl,hN6⟩;obtain ⟨gr6,A6,c6,css6,hgr6,hE6,hF6⟩:=hN6;have hsb6:=HSB5.out.fr hF6 HNE5.out;obtain ⟨s06,s16,s26,s36,s46,s56,s66,s76⟩:=id hsb6;have hs65:=hF6.size;have hne6 : ¬ (wr.heap.size = ge ∨ wr.heap.size = gr6):=fun e=>e.elim HNE.out.1 (fun e=>by rcases hgr6 with h | h;exact HNE5.out (.inr (by omega));omega);have HNE6:=Lib.hid hne6;have HSB6:=Lib.hid hsb6;have HF6:=Lib.hid (show (gr6 = gr5 ∨ w5.heap.size ≤ gr6) ∧ Fr (fun b=>b = ge ∨ b = gr5) w5 w6 from ⟨hgr6,hF6⟩);have e6 : ys ++ [(⟨2,0,x.term,0⟩ : Is)] ++ EB ++ [(⟨3,0,zeroT,0⟩ : Is)] = ys ++ (⟨2,0,x.term,0⟩ : Is) :: (EB ++ [(⟨3,0,zeroT,0⟩ : Is)]):=by simp
     rw [e6] at hE6;obtain ⟨n6,hn6'⟩ : ∃ n6,(ys ++ (⟨2,0,x.term,0⟩ : Is) :: (EB ++ [(⟨3,0,zeroT,0⟩ : Is)])).length = n6:=⟨_,rfl⟩
     have hnv : n6 = ys.length + 1 + EB.length + 1:=by rw [← hn6'];simp;omega
     have hnn6:=Lib.hid hn6';have z1 : (0 : Int) ≤ (ys.length : Int):=by omega
     have z2 : (ys.length : Int) < (n6 : Int):=by omega
     have hil : ys.length < (ys ++ (⟨2,0,x.term,0⟩ : Is) :: (EB ++ [(⟨3,0,zeroT,0⟩ : Is)])).length:=by rw [hn6'];omega
     have hD6:=Lib.hid (show ∀ V,Fr (fun b=>b = ge ∨ b = gr6) w6 V → Below w0.heap.size w0 V from fun V h=>hE6.low0 h (by
      have hg5:=HF5.out.1;have hlow:=hE6.low;have hgg : gr5 = ge ∨ base ≤ gr5:=by have:=HE4.out.grl;have:=HE4.out.high;have:=HD4.out.size;have:=HF4.out.2.size;omega
      exact ⟨hF6.os.trans HD5.out.os,hF6.tape.trans HD5.out.tape,hF6.output.trans HD5.out.output,Nat.le_trans HD5.out.size hF6.size,fun b hlt=>(hF6.block b (Nat.lt_of_lt_of_le hlt HD5.out.size) (by omega)).trans (HD5.out.block b hlt)⟩) hge)
     have HNV:=Lib.hid hnv;clear hn6' hnv hne6 hF6 hgr6 ;have hEd:=hE6.to (below_drew w6);obtain ⟨gs,eg,⟨us,hus⟩,hfs,hNs⟩:=hEd.setTo (i:=ys.length) hil (n6 : Int);rw [get_mid,set_mid] at hNs;have ps3 : w6.cell? ⟨ge,3,none⟩ = some (.slice (some ⟨gs,0,none⟩) n6 c6):=by rw [← eg,← hnn6.out];exact hE6.facts.1 3 _ rfl
     have hus' : w6.cell? ⟨gs,ys.length * 7 + 6,none⟩ = some us:=hus;have hfs' : w6.frozen? ⟨gs,ys.length * 7 + 6,none⟩ = false:=hfs;have HNS:=Lib.hid hNs;clear hus hfs hNs hEd eg;go_wp2_with fail
     go_still_tail 12,(by kernel_rfl)
     change wpList _ _ _ _ _ w6.drew
     clear hE6 hil e6;go_wp2_with fail
     clear ps3 hus' hfs';have hN7 : EmNew w6.drew ge base gr6 P (ys ++ (⟨2,0,x.term,(n6 : Int)⟩ : Is) :: (EB ++ [(⟨3,0,zeroT,0⟩ : Is)])) ((w6.setCell ⟨gs,ys.length * 7 + 6,none⟩ (.int .i64 (n6 : Int))).drew):=HNS.out;clear HNS;generalize (w6.setCell ⟨gs,ys.length * 7 + 6,none⟩ (.int .i64 (n6 : Int))).drew = w7 at hN7 ⊢;obtain ⟨gr7,A7,c7,css7,hgr7,hE7,hF7⟩:=hN7;have hF7' : Fr (fun b=>b = ge ∨ b = gr6) w6 w7:=(Fr.of_below (below_drew w6)).trans hF7;have hsb7:=HSB6.out.fr hF7' HNE6.out;obtain ⟨s07,s17,s27,s37,s47,s57,s67,s77⟩:=id hsb7;have hs76:=hF7'.size;have hne7 : ¬ (wr.heap.size = ge ∨ wr.heap.size = gr7):=fun e=>e.elim HNE.out.1 (fun e=>by rcases hgr7 with h | h;exact HNE6.out (.inr (by omega));have h' : w6.heap.size ≤ gr7:=h;omega);have HF7:=Lib.hid (show (gr7 = gr6 ∨ w6.heap.size ≤ gr7) ∧ Fr (fun b=>b = ge ∨ b = gr6) w6 w7 from ⟨hgr7,hF7'⟩);have hD7:=hD6.out _ hF7';have hl7 : (ys ++ (⟨2,0,x.term,(n6 : Int)⟩ : Is) :: (EB ++ [(⟨3,0,zeroT,0⟩ : Is)])).length = ys.length + 1 + EB.length + 1:=by simp;omega
     have hbe:=HHE.out w7 ge base gr7 _ A7 c7 css7 hD7 hge hE7 (by rw [hl7];omega);rw [hl7] at hbe;have HBE:=Lib.hid hbe;have hle8:=HEE.out (ys.length + 1 + EB.length + 1);have HE7:=Lib.hid hE7;have HD7:=Lib.hid hD7;clear hbe hE7 hD7 hF7 hF7' hgr7 hl7 hne7;go_wp2_with fail
     clear s07 s17 s27 s37 s47 s57 s67 s77 hsb7;refine HBE.out.mono ?_;rintro e w8 ⟨rfl,hN8⟩;obtain ⟨gr8,A8,c8,css8,hgr8,hE8,hF8⟩:=hN8;generalize hEE : emitL nm (ys.length + 1 + EB.length + 1) x.els = EE at hE8 hle8;have HEEE:=Lib.hid hEE;clear hEE;have HF8:=Lib.hid (show (gr8 = gr7 ∨ w7.heap.size ≤ gr8) ∧ Fr (fun b=>b = ge ∨ b = gr7) w7 w8 from ⟨hgr8,hF8⟩);have e8 : ys ++ (⟨2,0,x.term,(n6 : Int)⟩ : Is) :: (EB ++ [(⟨3,0,zeroT,0⟩ : Is)]) ++ EE = (ys ++ (⟨2,0,x.term,(n6 : Int)⟩ : Is) :: EB) ++ (⟨3,0,zeroT,0⟩ : Is) :: EE:=by simp
     rw [e8] at hE8;have hq8 : (ys ++ (⟨2,0,x.term,(n6 : Int)⟩ : Is) :: EB).length = q:=by rw [HQV.out];simp;omega
     obtain ⟨n8,hn8'⟩ : ∃ n8,((ys ++ (⟨2,0,x.term,(n6 : Int)⟩ : Is) :: EB) ++ (⟨3,0,zeroT,0⟩ : Is) :: EE).length = n8:=⟨_,rfl⟩
     have hnv8 : n8 = ys.length + 1 + EB.length + 1 + EE.length:=by rw [← hn8',List.length_append,hq8,HQV.out];simp;omega
     have hnn8:=Lib.hid hn8';have hqq:=HQV.out;have z3 : (0 : Int) ≤ (q : Int):=by omega
     have z4 : (q : Int) < (n8 : Int):=by omega
     have hil : (ys ++ (⟨2,0,x.term,(n6 : Int)⟩ : Is) :: EB).length < ((ys ++ (⟨2,0,x.term,(n6 : Int)⟩ : Is) :: EB) ++ (⟨3,0,zeroT,0⟩ : Is) :: EE).length:=by rw [hn8',hq8];omega
     have HNV8:=Lib.hid hnv8;clear hn8' hnv8 hF8 hgr8 hqq;have hEd:=hE8.to (below_drew w8);have hst:=hEd.setTo (i:=(ys ++ (⟨2,0,x.term,(n6 : Int)⟩ : Is) :: EB).length) hil (n8 : Int);rw [get_mid,set_mid,hq8] at hst;obtain ⟨gs8,eg,⟨us,hus⟩,hfs,hNs⟩:=hst;have ps3 : w8.cell? ⟨ge,3,none⟩ = some (.slice (some ⟨gs8,0,none⟩) n8 c8):=by rw [← eg,← hnn8.out];exact hE8.facts.1 3 _ rfl
     have hus' : w8.cell? ⟨gs8,q * 7 + 6,none⟩ = some us:=hus;have hfs' : w8.frozen? ⟨gs8,q * 7 + 6,none⟩ = false:=hfs;have HNS:=Lib.hid hNs;clear hus hfs hNs hEd eg hE8 hil e8 hq8;go_wp2_with fail
     go_still_tail 12,(by kernel_rfl)
     change wpList _ _ _ _ _ w8.drew
     go_wp2_with fail
     have HFI:=Lib.hid (show EmNew w ge base gr P (xs ++ emitL nm xs.length (ss.take (j + 1))) (w8.drew.setCell ⟨gs8,q * 7 + 6,none⟩ (.int .i64 (n8 : Int))) from by
      have hf:=EmNew.trans HF1.out.1 HF1.out.2 (EmNew.below HWL3.out (EmNew.trans HF4.out.1 HF4.out.2 (EmNew.trans HF5.out.1 HF5.out.2 (EmNew.trans HF6.out.1 HF6.out.2 (EmNew.trans HF7.out.1 HF7.out.2 (EmNew.trans HF8.out.1 HF8.out.2 (EmNew.below (below_drew w8) HNS.out)))))));rw [HTK.out,HEK.out.2.2.2.2.2.2.2.2 (by simp) HEL.out,HEBE.out,HEEE.out,← HNV8.out,← HNV.out];rw [List.append_assoc] at hf;exact hf)
     go_wp2_with fail
     go_roundg (ss.length - (j + 1))
     case measure=>omega
     case rel=>exact ⟨j + 1,by omega,rfl,by go_num,HFI.out⟩
   ·
    have hsb:=HSB.out 3;have hsl0:=HSL.out 3;have hE2:=HE1.out.to hsl0;have hD2:=(HD.out).trans (hsl0.mono (by omega));obtain ⟨s0,s1,s2,s3,s4,s5,s6,s7⟩:=id hsb;obtain ⟨p0,p1,p2⟩:=id hE2.cells;have hne : wr.heap.size ≠ ge ∧ wr.heap.size ≠ gr1:=⟨by have:=HE1.out.low;have:=HE1.out.high;omega,by have:=HE1.out.low;have:=HE1.out.high;have:=HE1.out.grl;omega⟩
    have HNE:=Lib.hid hne;go_wp2_with fail
    generalize wr.alloc (.cells #[.int .i64 3,.string x.name,.int .i64 x.term.kind,.int .i64 x.term.num,.string x.term.name,.slice A x.term.kids.length c,.slice Ab x.body.length cb,.slice Ae x.els.length ce] 106) = W at hsb hsl0 hE2 hD2 s0 s1 s2 s3 s4 s5 s6 s7 p0 p1 p2 ⊢;clear k0 k1 k2 k3 k4 k5 k6 k7 HSB HSL hne;have HSB:=Lib.hid hsb;have HE2:=Lib.hid hE2;have HD2:=Lib.hid hD2;have HWL:=Lib.hid hsl0;clear hsb hE2 hD2 hsl0;refine (HCP.out _ HD2.out (by omega)).mono ?_;rintro e w3 ⟨Ak,ck,rfl,hkn,hb3⟩;have hE3:=HE2.out.to hb3;have hsb3:=HSB.out.to hb3;obtain ⟨s03,s13,s23,s33,s43,s53,s63,s73⟩:=id hsb3;have hk3:=kids_he (P:=P) (gr:=gr1) (base:=base) hkn (show base ≤ W.heap.size from HE2.out.high) (show gr1 < W.heap.size from by have:=HE2.out.grl;have:=HE2.out.low;have:=HE2.out.high;omega) HE2.out.xlt;have HWL3:=Lib.hid (below_trans' HWL.out hb3);have hD3:=HD2.out.trans (hb3.mono HD2.out.size);clear hkn hb3 s0 s1 s2 s3 s4 s5 s6 s7;have HPUT:=Lib.hid (l08Put_any hE3 (by omega) ⟨2,0,x.term,0⟩ Ak ck hk3);have HE3:=Lib.hid hE3;have HD3:=Lib.hid hD3;have HSB3:=Lib.hid hsb3;clear hE3 hk3 hD3 p0 p1 p2;go_wp2_with fail
    clear s03 s13 s23 s33 s43 s53 s63 s73 hsb3;refine HPUT.out.mono ?_;rintro e w4 ⟨rfl,hN4⟩;obtain ⟨gr4,A4,c4,css4,hgr4,hE4,hF4⟩:=hN4;have hsb4:=HSB3.out.fr hF4 (fun e=>e.elim HNE.out.1 HNE.out.2);obtain ⟨s04,s14,s24,s34,s44,s54,s64,s74⟩:=id hsb4;have hD4:=HE3.out.low0 hF4 HD3.out hge;have hs43:=hF4.size;have hs3w:=HWL3.out.size;have hwrl : wr.heap.size < w3.heap.size:=World.block_lt_of_cell? w3 _ HSB3.out.1;have hne4 : ¬ (wr.heap.size = ge ∨ wr.heap.size = gr4):=fun e=>e.elim HNE.out.1 (fun e=>by rcases hgr4 with h | h;exact HNE.out.2 (by omega);omega);have HNE4:=Lib.hid hne4;have HF4:=Lib.hid (show (gr4 = gr1 ∨ w3.heap.size ≤ gr4) ∧ Fr (fun b=>b = ge ∨ b = gr1) w3 w4 from ⟨hgr4,hF4⟩);have HBD:=Lib.hid (HHB.out w4 ge base gr4 _ A4 c4 css4 hD4 hge hE4 (by rw [List.length_append];simp only [List.length_cons,List.length_nil];omega));have hlb:=HEB.out (ys.length + 1);have HE4:=Lib.hid hE4;have HD4:=Lib.hid hD4;have HSB4:=Lib.hid hsb4;clear hE4 hD4 hF4 hgr4 hne4;go_wp2_with fail
    clear s04 s14 s24 s34 s44 s54 s64 s74 hsb4;refine HBD.out.mono ?_;rintro e w5 ⟨rfl,hN5⟩;have ez : (ys ++ [(⟨2,0,x.term,0⟩ : Is)]).length = ys.length + 1:=by simp
    rw [ez] at hN5;obtain ⟨gr5,A5,c5,css5,hgr5,hE5,hF5⟩:=hN5;generalize hEB : emitL nm (ys.length + 1) x.body = EB at hE5 hlb;have HEBE:=Lib.hid hEB;clear hEB ez;have hsb5:=HSB4.out.fr hF5 HNE4.out;obtain ⟨s05,s15,s25,s35,s45,s55,s65,s75⟩:=id hsb5;have hD5:=HE4.out.low0 hF5 HD4.out hge;have hs54:=hF5.size;have hne5 : ¬ (wr.heap.size = ge ∨ wr.heap.size = gr5):=fun e=>e.elim HNE.out.1 (fun e=>by rcases hgr5 with h | h;exact HNE4.out (.inr (by omega));omega);have HNE5:=Lib.hid hne5;have HF5:=Lib.hid (show (gr5 = gr4 ∨ w4.heap.size ≤ gr5) ∧ Fr (fun b=>b = ge ∨ b = gr4) w4 w5 from ⟨hgr5,hF5⟩);have HD5:=Lib.hid hD5;have HSB5:=Lib.hid hsb5;clear hD5 hF5 hgr5 hne5;have HPUT5:=Lib.hid (l08Put_any hE5 (by simp only [List.length_append,List.length_cons,List.length_nil];omega) ⟨3,0,zeroT,(ys.length : Nat)⟩ none 0 (zero_kids _ _ none));clear hE5;go_wp2_with fail
    clear s05 s15 s25 s35 s45 s55 s65 s75 hsb5;refine HPUT5.out.mono ?_;rintro e w6 ⟨rfl,hN6⟩;obtain ⟨gr6,A6,c6,css6,hgr6,hE6,hF6⟩:=hN6;have e6 : ys ++ [(⟨2,0,x.term,0⟩ : Is)] ++ EB ++ [(⟨3,0,zeroT,(ys.length : Nat)⟩ : Is)] = ys ++ (⟨2,0,x.term,0⟩ : Is) :: (EB ++ [(⟨3,0,zeroT,(ys.length : Nat)⟩ : Is)]):=by simp
    rw [e6] at hE6;obtain ⟨n6,hn6'⟩ : ∃ n6,(ys ++ (⟨2,0,x.term,0⟩ : Is) :: (EB ++ [(⟨3,0,zeroT,(ys.length : Nat)⟩ : Is)])).length = n6:=⟨_,rfl⟩
    have hnv : n6 = ys.length + 1 + EB.length + 1:=by rw [← hn6'];simp;omega
    have hnn6:=Lib.hid hn6';have z1 : (0 : Int) ≤ (ys.length : Int):=by omega
    have z2 : (ys.length : Int) < (n6 : Int):=by omega
    have hil : ys.length < (ys ++ (⟨2,0,x.term,0⟩ : Is) :: (EB ++ [(⟨3,0,zeroT,(ys.length : Nat)⟩ : Is)])).length:=by rw [hn6'];omega
    have HNV:=Lib.hid hnv;clear hn6' hnv;have hEd:=hE6.to (below_drew w6);obtain ⟨gs,eg,⟨us,hus⟩,hfs,hNs⟩:=hEd.setTo (i:=ys.length) hil (n6 : Int);rw [get_mid,set_mid] at hNs;have ps3 : w6.cell? ⟨ge,3,none⟩ = some (.slice (some ⟨gs,0,none⟩) n6 c6):=by rw [← eg,← hnn6.out];exact hE6.facts.1 3 _ rfl
    have hus' : w6.cell? ⟨gs,ys.length * 7 + 6,none⟩ = some us:=hus;have hfs' : w6.frozen? ⟨gs,ys.length * 7 + 6,none⟩ = false:=hfs;have HNS:=Lib.hid hNs;clear hus hfs hNs hEd eg;go_wp2_with fail
    go_still_tail 12,(by kernel_rfl)
    change wpList _ _ _ _ _ w6.drew
    have HF6:=Lib.hid (show (gr6 = gr5 ∨ w5.heap.size ≤ gr6) ∧ Fr (fun b=>b = ge ∨ b = gr5) w5 w6 from ⟨hgr6,hF6⟩);clear hE6 hF6 hgr6 hil e6;go_wp2_with fail
    have HFI:=Lib.hid (show EmNew w ge base gr P (xs ++ emitL nm xs.length (ss.take (j + 1))) (w6.drew.setCell ⟨gs,ys.length * 7 + 6,none⟩ (.int .i64 (n6 : Int))) from by
     have hf:=EmNew.trans HF1.out.1 HF1.out.2 (EmNew.below HWL3.out (EmNew.trans HF4.out.1 HF4.out.2 (EmNew.trans HF5.out.1 HF5.out.2 (EmNew.trans HF6.out.1 HF6.out.2 (EmNew.below (below_drew w6) HNS.out)))));rw [HTK.out,HEK.out.2.2.2.2.2.2.1 (by simp),HEBE.out,← HNV.out];exact hf)
    go_wp2_with fail
    go_roundg (ss.length - (j + 1))
    case measure=>omega
    case rel=>exact ⟨j + 1,by omega,rfl,by go_num,HFI.out⟩
   ·
    have hsb:=HSB.out 4;have hsl0:=HSL.out 4;have hE2:=HE1.out.to hsl0;have hD2:=(HD.out).trans (hsl0.mono (by omega));obtain ⟨s0,s1,s2,s3,s4,s5,s6,s7⟩:=id hsb;obtain ⟨p0,p1,p2⟩:=id hE2.cells;have hne : wr.heap.size ≠ ge ∧ wr.heap.size ≠ gr1:=⟨by have:=HE1.out.low;have:=HE1.out.high;omega,by have:=HE1.out.low;have:=HE1.out.high;have:=HE1.out.grl;omega⟩
    have HNE:=Lib.hid hne;go_wp2_with fail
    generalize wr.alloc (.cells #[.int .i64 4,.string x.name,.int .i64 x.term.kind,.int .i64 x.term.num,.string x.term.name,.slice A x.term.kids.length c,.slice Ab x.body.length cb,.slice Ae x.els.length ce] 106) = W at hsb hsl0 hE2 hD2 s0 s1 s2 s3 s4 s5 s6 s7 p0 p1 p2 ⊢;clear k0 k1 k2 k3 k4 k5 k6 k7 HSB HSL hne;have HSB:=Lib.hid hsb;have HE2:=Lib.hid hE2;have HD2:=Lib.hid hD2;have HWL:=Lib.hid hsl0;clear hsb hE2 hD2 hsl0;refine wp_region_held_drew (S:=fun w'=>PCell ge P w' ∧ SBox wr.heap.size 4 x A Ab Ae c cb ce w') (by kernel_rfl) (⟨⟨p0,p1,p2⟩,HSB.out⟩) (fun hHeld=>?_);first | refine hs_ 0 ?_ | (refine hr_ 0 ?_ ?_ ?_;rotate_left;(intro W hW;obtain ⟨⟨p0q,p1q,p2q⟩,s0q,s1q,s2q,s3q,s4q,s5q,s6q,s7q⟩:=id hW;go_simp;try with_reducible rfl))
    first | refine hs_ 1 ?_ | (refine hr_ 1 ?_ ?_ ?_;rotate_left;(intro W hW;obtain ⟨⟨p0q,p1q,p2q⟩,s0q,s1q,s2q,s3q,s4q,s5q,s6q,s7q⟩:=id hW;go_simp;try with_reducible rfl))
    first | refine hs_ 2 ?_ | (refine hr_ 2 ?_ ?_ ?_;rotate_left;(intro W hW;obtain ⟨⟨p0q,p1q,p2q⟩,s0q,s1q,s2q,s3q,s4q,s5q,s6q,s7q⟩:=id hW;go_simp;try with_reducible rfl))
    first | refine hs_ 3 ?_ | (refine hr_ 3 ?_ ?_ ?_;rotate_left;(intro W hW;obtain ⟨⟨p0q,p1q,p2q⟩,s0q,s1q,s2q,s3q,s4q,s5q,s6q,s7q⟩:=id hW;go_simp;try with_reducible rfl))
    first | refine hs_ 4 ?_ | (refine hr_ 4 ?_ ?_ ?_;rotate_left;(intro W hW;obtain ⟨⟨p0q,p1q,p2q⟩,s0q,s1q,s2q,s3q,s4q,s5q,s6q,s7q⟩:=id hW;go_simp;try with_reducible rfl))
    first | refine hs_ 5 ?_ | (refine hr_ 5 ?_ ?_ ?_;rotate_left;(intro W hW;obtain ⟨⟨p0q,p1q,p2q⟩,s0q,s1q,s2q,s3q,s4q,s5q,s6q,s7q⟩:=id hW;go_simp;try with_reducible rfl))
    first | refine hs_ 6 ?_ | (refine hr_ 6 ?_ ?_ ?_;rotate_left;(intro W hW;obtain ⟨⟨p0q,p1q,p2q⟩,s0q,s1q,s2q,s3q,s4q,s5q,s6q,s7q⟩:=id hW;go_simp;try with_reducible rfl))
    refine ho_ 7 fun K hK=>?_;go_simp
    refine (HPP.out _ HD2.out.drew x.name).mono ?_;rintro e w4 ⟨rfl,hb4⟩;have hE4:=(HE2.out.to (below_drew W)).to hb4;have hS4 : PCell ge P w4 ∧ SBox wr.heap.size 4 x A Ab Ae c cb ce w4:=⟨hE4.cells,hHeld.2.to hb4⟩
    have HWL4:=Lib.hid (below_trans' (below_trans' HWL.out (below_drew W)) hb4);have HE4:=Lib.hid hE4;clear hb4 hE4;refine hk_ hK (hS4) fun hHeld=>?_;clear hK K;first | refine hs_ 8 ?_ | (refine hr_ 8 ?_ ?_ ?_;rotate_left;(intro W hW;obtain ⟨⟨p0q,p1q,p2q⟩,s0q,s1q,s2q,s3q,s4q,s5q,s6q,s7q⟩:=id hW;go_simp;try with_reducible rfl))
    refine ho_ 9 fun K hK=>?_;go_simp
    refine (l08Put_any HE4.out (by omega) ⟨4,placeOf nm x.name,zeroT,0⟩ _ _ (zero_kids _ _ none)).mono ?_;rintro e w9 ⟨rfl,hN9⟩;obtain ⟨gr9,A9,c9,css9,hgr9,hE9,hF9⟩:=id hN9;have hS9 : PCell ge P w9 ∧ SBox wr.heap.size 4 x A Ab Ae c cb ce w9:=⟨hE9.cells,hHeld.2.fr hF9 (fun e=>e.elim HNE.out.1 HNE.out.2)⟩
    have HN9:=Lib.hid hN9;clear hN9 hgr9 hE9 hF9;refine hk_ hK (hS9) fun hHeld=>?_;clear hK K;refine wpAnyH_done (by kernel_rfl) ?_ _;have HFI:=Lib.hid (show EmNew w ge base gr P (xs ++ emitL nm xs.length (ss.take (j + 1))) w9 from by
     rw [HTK.out,HEK.out.2.1 (by simp)];exact EmNew.trans HF1.out.1 HF1.out.2 (EmNew.below (HWL4.out) HN9.out))
    clear hHeld HN9 hS9;go_wp2_with fail
    go_roundg (ss.length - (j + 1))
    case measure=>omega
    case rel=>exact ⟨j + 1,by omega,rfl,by go_num,HFI.out⟩
   ·
    have hsb:=HSB.out 5;have hsl0:=HSL.out 5;have hE2:=HE1.out.to hsl0;have hD2:=(HD.out).trans (hsl0.mono (by omega));obtain ⟨s0,s1,s2,s3,s4,s5,s6,s7⟩:=id hsb;obtain ⟨p0,p1,p2⟩:=id hE2.cells;have hne : wr.heap.size ≠ ge ∧ wr.heap.size ≠ gr1:=⟨by have:=HE1.out.low;have:=HE1.out.high;omega,by have:=HE1.out.low;have:=HE1.out.high;have:=HE1.out.grl;omega⟩
    have HNE:=Lib.hid hne;go_wp2_with fail
    generalize wr.alloc (.cells #[.int .i64 5,.string x.name,.int .i64 x.term.kind,.int .i64 x.term.num,.string x.term.name,.slice A x.term.kids.length c,.slice Ab x.body.length cb,.slice Ae x.els.length ce] 106) = W at hsb hsl0 hE2 hD2 s0 s1 s2 s3 s4 s5 s6 s7 p0 p1 p2 ⊢;clear k0 k1 k2 k3 k4 k5 k6 k7 HSB HSL hne;have HSB:=Lib.hid hsb;have HE2:=Lib.hid hE2;have HD2:=Lib.hid hD2;have HWL:=Lib.hid hsl0;clear hsb hE2 hD2 hsl0;refine wp_region_held_drew (S:=fun w'=>PCell ge P w' ∧ SBox wr.heap.size 5 x A Ab Ae c cb ce w') (by kernel_rfl) (⟨⟨p0,p1,p2⟩,HSB.out⟩) (fun hHeld=>?_);first | refine hs_ 0 ?_ | (refine hr_ 0 ?_ ?_ ?_;rotate_left;(intro W hW;obtain ⟨⟨p0q,p1q,p2q⟩,s0q,s1q,s2q,s3q,s4q,s5q,s6q,s7q⟩:=id hW;go_simp;try with_reducible rfl))
    first | refine hs_ 1 ?_ | (refine hr_ 1 ?_ ?_ ?_;rotate_left;(intro W hW;obtain ⟨⟨p0q,p1q,p2q⟩,s0q,s1q,s2q,s3q,s4q,s5q,s6q,s7q⟩:=id hW;go_simp;try with_reducible rfl))
    first | refine hs_ 2 ?_ | (refine hr_ 2 ?_ ?_ ?_;rotate_left;(intro W hW;obtain ⟨⟨p0q,p1q,p2q⟩,s0q,s1q,s2q,s3q,s4q,s5q,s6q,s7q⟩:=id hW;go_simp;try with_reducible rfl))
    first | refine hs_ 3 ?_ | (refine hr_ 3 ?_ ?_ ?_;rotate_left;(intro W hW;obtain ⟨⟨p0q,p1q,p2q⟩,s0q,s1q,s2q,s3q,s4q,s5q,s6q,s7q⟩:=id hW;go_simp;try with_reducible rfl))
    first | refine hs_ 4 ?_ | (refine hr_ 4 ?_ ?_ ?_;rotate_left;(intro W hW;obtain ⟨⟨p0q,p1q,p2q⟩,s0q,s1q,s2q,s3q,s4q,s5q,s6q,s7q⟩:=id hW;go_simp;try with_reducible rfl))
    first | refine hs_ 5 ?_ | (refine hr_ 5 ?_ ?_ ?_;rotate_left;(intro W hW;obtain ⟨⟨p0q,p1q,p2q⟩,s0q,s1q,s2q,s3q,s4q,s5q,s6q,s7q⟩:=id hW;go_simp;try with_reducible rfl))
    first | refine hs_ 6 ?_ | (refine hr_ 6 ?_ ?_ ?_;rotate_left;(intro W hW;obtain ⟨⟨p0q,p1q,p2q⟩,s0q,s1q,s2q,s3q,s4q,s5q,s6q,s7q⟩:=id hW;go_simp;try with_reducible rfl))
    refine ho_ 7 fun K hK=>?_;go_simp
    refine (HPP.out _ HD2.out.drew x.name).mono ?_;rintro e w4 ⟨rfl,hb4⟩;have hE4:=(HE2.out.to (below_drew W)).to hb4;have hS4 : PCell ge P w4 ∧ SBox wr.heap.size 5 x A Ab Ae c cb ce w4:=⟨hE4.cells,hHeld.2.to hb4⟩
    have HWL4:=Lib.hid (below_trans' (below_trans' HWL.out (below_drew W)) hb4);have HE4:=Lib.hid hE4;clear hb4 hE4;refine hk_ hK (hS4) fun hHeld=>?_;clear hK K;first | refine hs_ 8 ?_ | (refine hr_ 8 ?_ ?_ ?_;rotate_left;(intro W hW;obtain ⟨⟨p0q,p1q,p2q⟩,s0q,s1q,s2q,s3q,s4q,s5q,s6q,s7q⟩:=id hW;go_simp;try with_reducible rfl))
    refine ho_ 9 fun K hK=>?_;go_simp
    refine (l08Put_any HE4.out (by omega) ⟨5,placeOf nm x.name,zeroT,0⟩ _ _ (zero_kids _ _ none)).mono ?_;rintro e w9 ⟨rfl,hN9⟩;obtain ⟨gr9,A9,c9,css9,hgr9,hE9,hF9⟩:=id hN9;have hS9 : PCell ge P w9 ∧ SBox wr.heap.size 5 x A Ab Ae c cb ce w9:=⟨hE9.cells,hHeld.2.fr hF9 (fun e=>e.elim HNE.out.1 HNE.out.2)⟩
    have HN9:=Lib.hid hN9;clear hN9 hgr9 hE9 hF9;refine hk_ hK (hS9) fun hHeld=>?_;clear hK K;refine wpAnyH_done (by kernel_rfl) ?_ _;have HFI:=Lib.hid (show EmNew w ge base gr P (xs ++ emitL nm xs.length (ss.take (j + 1))) w9 from by
     rw [HTK.out,HEK.out.2.2.1 (by simp)];exact EmNew.trans HF1.out.1 HF1.out.2 (EmNew.below (HWL4.out) HN9.out))
    clear hHeld HN9 hS9;go_wp2_with fail
    go_roundg (ss.length - (j + 1))
    case measure=>omega
    case rel=>exact ⟨j + 1,by omega,rfl,by go_num,HFI.out⟩
   ·
    have hsb:=HSB.out 6;have hsl0:=HSL.out 6;have hE2:=HE1.out.to hsl0;have hD2:=(HD.out).trans (hsl0.mono (by omega));obtain ⟨s0,s1,s2,s3,s4,s5,s6,s7⟩:=id hsb;obtain ⟨p0,p1,p2⟩:=id hE2.cells;have hne : wr.heap.size ≠ ge ∧ wr.heap.size ≠ gr1:=⟨by have:=HE1.out.low;have:=HE1.out.high;omega,by have:=HE1.out.low;have:=HE1.out.high;have:=HE1.out.grl;omega⟩
    have HNE:=Lib.hid hne;go_wp2_with fail
    generalize wr.alloc (.cells #[.int .i64 6,.string x.name,.int .i64 x.term.kind,.int .i64 x.term.num,.string x.term.name,.slice A x.term.kids.length c,.slice Ab x.body.length cb,.slice Ae x.els.length ce] 106) = W at hsb hsl0 hE2 hD2 s0 s1 s2 s3 s4 s5 s6 s7 p0 p1 p2 ⊢;clear k0 k1 k2 k3 k4 k5 k6 k7 HSB HSL hne;have HSB:=Lib.hid hsb;have HE2:=Lib.hid hE2;have HD2:=Lib.hid hD2;have HWL:=Lib.hid hsl0;clear hsb hE2 hD2 hsl0;refine wp_region_held_drew (S:=fun w'=>PCell ge P w' ∧ SBox wr.heap.size 6 x A Ab Ae c cb ce w') (by kernel_rfl) (⟨⟨p0,p1,p2⟩,HSB.out⟩) (fun hHeld=>?_);first | refine hs_ 0 ?_ | (refine hr_ 0 ?_ ?_ ?_;rotate_left;(intro W hW;obtain ⟨⟨p0q,p1q,p2q⟩,s0q,s1q,s2q,s3q,s4q,s5q,s6q,s7q⟩:=id hW;go_simp;try with_reducible rfl))
    first | refine hs_ 1 ?_ | (refine hr_ 1 ?_ ?_ ?_;rotate_left;(intro W hW;obtain ⟨⟨p0q,p1q,p2q⟩,s0q,s1q,s2q,s3q,s4q,s5q,s6q,s7q⟩:=id hW;go_simp;try with_reducible rfl))
    first | refine hs_ 2 ?_ | (refine hr_ 2 ?_ ?_ ?_;rotate_left;(intro W hW;obtain ⟨⟨p0q,p1q,p2q⟩,s0q,s1q,s2q,s3q,s4q,s5q,s6q,s7q⟩:=id hW;go_simp;try with_reducible rfl))
    first | refine hs_ 3 ?_ | (refine hr_ 3 ?_ ?_ ?_;rotate_left;(intro W hW;obtain ⟨⟨p0q,p1q,p2q⟩,s0q,s1q,s2q,s3q,s4q,s5q,s6q,s7q⟩:=id hW;go_simp;try with_reducible rfl))
    first | refine hs_ 4 ?_ | (refine hr_ 4 ?_ ?_ ?_;rotate_left;(intro W hW;obtain ⟨⟨p0q,p1q,p2q⟩,s0q,s1q,s2q,s3q,s4q,s5q,s6q,s7q⟩:=id hW;go_simp;try with_reducible rfl))
    first | refine hs_ 5 ?_ | (refine hr_ 5 ?_ ?_ ?_;rotate_left;(intro W hW;obtain ⟨⟨p0q,p1q,p2q⟩,s0q,s1q,s2q,s3q,s4q,s5q,s6q,s7q⟩:=id hW;go_simp;try with_reducible rfl))
    first | refine hs_ 6 ?_ | (refine hr_ 6 ?_ ?_ ?_;rotate_left;(intro W hW;obtain ⟨⟨p0q,p1q,p2q⟩,s0q,s1q,s2q,s3q,s4q,s5q,s6q,s7q⟩:=id hW;go_simp;try with_reducible rfl))
    first | refine hs_ 7 ?_ | (refine hr_ 7 ?_ ?_ ?_;rotate_left;(intro W hW;obtain ⟨⟨p0q,p1q,p2q⟩,s0q,s1q,s2q,s3q,s4q,s5q,s6q,s7q⟩:=id hW;go_simp;try with_reducible rfl))
    refine ho_ 8 fun K hK=>?_;go_simp
    refine (HPL.out _ HD2.out.drew x.name).mono ?_;rintro e w3 ⟨rfl,rfl⟩;have HWL4:=Lib.hid (below_trans' HWL.out (below_drew W));have HE4:=Lib.hid (HE2.out.to (below_drew W));refine hk_ hK (hHeld) fun hHeld=>?_;clear hK K;first | refine hs_ 9 ?_ | (refine hr_ 9 ?_ ?_ ?_;rotate_left;(intro W hW;obtain ⟨⟨p0q,p1q,p2q⟩,s0q,s1q,s2q,s3q,s4q,s5q,s6q,s7q⟩:=id hW;go_simp;try with_reducible rfl))
    refine ho_ 10 fun K hK=>?_;go_simp
    refine (l08Put_any HE4.out (by omega) ⟨6,placeOf lockL x.name,zeroT,0⟩ _ _ (zero_kids _ _ none)).mono ?_;rintro e w9 ⟨rfl,hN9⟩;obtain ⟨gr9,A9,c9,css9,hgr9,hE9,hF9⟩:=id hN9;have hS9 : PCell ge P w9 ∧ SBox wr.heap.size 6 x A Ab Ae c cb ce w9:=⟨hE9.cells,hHeld.2.fr hF9 (fun e=>e.elim HNE.out.1 HNE.out.2)⟩
    have HN9:=Lib.hid hN9;clear hN9 hgr9 hE9 hF9;refine hk_ hK (hS9) fun hHeld=>?_;clear hK K;refine wpAnyH_done (by kernel_rfl) ?_ _;have HFI:=Lib.hid (show EmNew w ge base gr P (xs ++ emitL nm xs.length (ss.take (j + 1))) w9 from by
     rw [HTK.out,HEK.out.2.2.2.1 (by simp)];exact EmNew.trans HF1.out.1 HF1.out.2 (EmNew.below (HWL4.out) HN9.out))
    clear hHeld HN9 hS9;go_wp2_with fail
    go_roundg (ss.length - (j + 1))
    case measure=>omega
    case rel=>exact ⟨j + 1,by omega,rfl,by go_num,HFI.out⟩
   ·
    have hsb:=HSB.out 7;have hsl0:=HSL.out 7;have hE2:=HE1.out.to hsl0;have hD2:=(HD.out).trans (hsl0.mono (by omega));obtain ⟨s0,s1,s2,s3,s4,s5,s6,s7⟩:=id hsb;obtain ⟨p0,p1,p2⟩:=id hE2.cells;have hne : wr.heap.size ≠ ge ∧ wr.heap.size ≠ gr1:=⟨by have:=HE1.out.low;have:=HE1.out.high;omega,by have:=HE1.out.low;have:=HE1.out.high;have:=HE1.out.grl;omega⟩
    have HNE:=Lib.hid hne;go_wp2_with fail
    generalize wr.alloc (.cells #[.int .i64 7,.string x.name,.int .i64 x.term.kind,.int .i64 x.term.num,.string x.term.name,.slice A x.term.kids.length c,.slice Ab x.body.length cb,.slice Ae x.els.length ce] 106) = W at hsb hsl0 hE2 hD2 s0 s1 s2 s3 s4 s5 s6 s7 p0 p1 p2 ⊢;clear k0 k1 k2 k3 k4 k5 k6 k7 HSB HSL hne;have HSB:=Lib.hid hsb;have HE2:=Lib.hid hE2;have HD2:=Lib.hid hD2;have HWL:=Lib.hid hsl0;clear hsb hE2 hD2 hsl0;refine wp_region_held_drew (S:=fun w'=>PCell ge P w' ∧ SBox wr.heap.size 7 x A Ab Ae c cb ce w') (by kernel_rfl) (⟨⟨p0,p1,p2⟩,HSB.out⟩) (fun hHeld=>?_);first | refine hs_ 0 ?_ | (refine hr_ 0 ?_ ?_ ?_;rotate_left;(intro W hW;obtain ⟨⟨p0q,p1q,p2q⟩,s0q,s1q,s2q,s3q,s4q,s5q,s6q,s7q⟩:=id hW;go_simp;try with_reducible rfl))
    first | refine hs_ 1 ?_ | (refine hr_ 1 ?_ ?_ ?_;rotate_left;(intro W hW;obtain ⟨⟨p0q,p1q,p2q⟩,s0q,s1q,s2q,s3q,s4q,s5q,s6q,s7q⟩:=id hW;go_simp;try with_reducible rfl))
    first | refine hs_ 2 ?_ | (refine hr_ 2 ?_ ?_ ?_;rotate_left;(intro W hW;obtain ⟨⟨p0q,p1q,p2q⟩,s0q,s1q,s2q,s3q,s4q,s5q,s6q,s7q⟩:=id hW;go_simp;try with_reducible rfl))
    first | refine hs_ 3 ?_ | (refine hr_ 3 ?_ ?_ ?_;rotate_left;(intro W hW;obtain ⟨⟨p0q,p1q,p2q⟩,s0q,s1q,s2q,s3q,s4q,s5q,s6q,s7q⟩:=id hW;go_simp;try with_reducible rfl))
    first | refine hs_ 4 ?_ | (refine hr_ 4 ?_ ?_ ?_;rotate_left;(intro W hW;obtain ⟨⟨p0q,p1q,p2q⟩,s0q,s1q,s2q,s3q,s4q,s5q,s6q,s7q⟩:=id hW;go_simp;try with_reducible rfl))
    first | refine hs_ 5 ?_ | (refine hr_ 5 ?_ ?_ ?_;rotate_left;(intro W hW;obtain ⟨⟨p0q,p1q,p2q⟩,s0q,s1q,s2q,s3q,s4q,s5q,s6q,s7q⟩:=id hW;go_simp;try with_reducible rfl))
    first | refine hs_ 6 ?_ | (refine hr_ 6 ?_ ?_ ?_;rotate_left;(intro W hW;obtain ⟨⟨p0q,p1q,p2q⟩,s0q,s1q,s2q,s3q,s4q,s5q,s6q,s7q⟩:=id hW;go_simp;try with_reducible rfl))
    first | refine hs_ 7 ?_ | (refine hr_ 7 ?_ ?_ ?_;rotate_left;(intro W hW;obtain ⟨⟨p0q,p1q,p2q⟩,s0q,s1q,s2q,s3q,s4q,s5q,s6q,s7q⟩:=id hW;go_simp;try with_reducible rfl))
    refine ho_ 8 fun K hK=>?_;go_simp
    refine (HPL.out _ HD2.out.drew x.name).mono ?_;rintro e w3 ⟨rfl,rfl⟩;have HWL4:=Lib.hid (below_trans' HWL.out (below_drew W));have HE4:=Lib.hid (HE2.out.to (below_drew W));refine hk_ hK (hHeld) fun hHeld=>?_;clear hK K;first | refine hs_ 9 ?_ | (refine hr_ 9 ?_ ?_ ?_;rotate_left;(intro W hW;obtain ⟨⟨p0q,p1q,p2q⟩,s0q,s1q,s2q,s3q,s4q,s5q,s6q,s7q⟩:=id hW;go_simp;try with_reducible rfl))
    refine ho_ 10 fun K hK=>?_;go_simp
    refine (l08Put_any HE4.out (by omega) ⟨7,placeOf lockL x.name,zeroT,0⟩ _ _ (zero_kids _ _ none)).mono ?_;rintro e w9 ⟨rfl,hN9⟩;obtain ⟨gr9,A9,c9,css9,hgr9,hE9,hF9⟩:=id hN9;have hS9 : PCell ge P w9 ∧ SBox wr.heap.size 7 x A Ab Ae c cb ce w9:=⟨hE9.cells,hHeld.2.fr hF9 (fun e=>e.elim HNE.out.1 HNE.out.2)⟩
    have HN9:=Lib.hid hN9;clear hN9 hgr9 hE9 hF9;refine hk_ hK (hS9) fun hHeld=>?_;clear hK K;refine wpAnyH_done (by kernel_rfl) ?_ _;have HFI:=Lib.hid (show EmNew w ge base gr P (xs ++ emitL nm xs.length (ss.take (j + 1))) w9 from by
     rw [HTK.out,HEK.out.2.2.2.2.1 (by simp)];exact EmNew.trans HF1.out.1 HF1.out.2 (EmNew.below (HWL4.out) HN9.out))
    clear hHeld HN9 hS9;go_wp2_with fail
    go_roundg (ss.length - (j + 1))
    case measure=>omega
    case rel=>exact ⟨j + 1,by omega,rfl,by go_num,HFI.out⟩
   ·
    have hsb:=HSB.out 8;have hsl0:=HSL.out 8;have hE2:=HE1.out.to hsl0;have hD2:=(HD.out).trans (hsl0.mono (by omega));obtain ⟨s0,s1,s2,s3,s4,s5,s6,s7⟩:=id hsb;obtain ⟨p0,p1,p2⟩:=id hE2.cells;have hne : wr.heap.size ≠ ge ∧ wr.heap.size ≠ gr1:=⟨by have:=HE1.out.low;have:=HE1.out.high;omega,by have:=HE1.out.low;have:=HE1.out.high;have:=HE1.out.grl;omega⟩
    have HNE:=Lib.hid hne;go_wp2_with fail
    generalize wr.alloc (.cells #[.int .i64 8,.string x.name,.int .i64 x.term.kind,.int .i64 x.term.num,.string x.term.name,.slice A x.term.kids.length c,.slice Ab x.body.length cb,.slice Ae x.els.length ce] 106) = W at hsb hsl0 hE2 hD2 s0 s1 s2 s3 s4 s5 s6 s7 p0 p1 p2 ⊢;clear k0 k1 k2 k3 k4 k5 k6 k7 HSB HSL hne;have HSB:=Lib.hid hsb;have HE2:=Lib.hid hE2;have HD2:=Lib.hid hD2;have HWL:=Lib.hid hsl0;clear hsb hE2 hD2 hsl0;refine (l08Put_any HE2.out (by omega) ⟨8,0,zeroT,0⟩ none 0 (zero_kids _ _ none)).mono ?_;rintro e w9 ⟨rfl,hN9⟩;have HFI:=Lib.hid (show EmNew w ge base gr P (xs ++ emitL nm xs.length (ss.take (j + 1))) w9 from by
     rw [HTK.out,HEK.out.2.2.2.2.2.1 (by simp)];exact EmNew.trans HF1.out.1 HF1.out.2 (EmNew.below HWL.out hN9))
    clear hN9;go_wp2_with fail
    go_roundg (ss.length - (j + 1))
    case measure=>omega
    case rel=>exact ⟨j + 1,by omega,rfl,by go_num,HFI.out⟩
  ·
   obtain rfl : j = ss.length:=by omega
   go_wp2_with fail
   go_end0
   exact ⟨rfl,by have:=HEN.out;rwa [List.take_of_length_le (Nat.le_refl _)] at this⟩
end Go.Proofs.Ytkgoajnnkimkaaa
