/- Contract of the reference's l07Unknown for drawn programs: every name is known. -/
import Derived.Test.YtkgoajnnkimkaaaH15
import Derived.Test.YtkgoajnnkimkaaaH16
set_option linter.unusedSimpArgs false
set_option linter.unusedVariables false
set_option maxRecDepth 100000
set_option maxHeartbeats 16000000
namespace Go.Proofs.Ytkgoajnnkimkaaa
open Go.ChangeShapes Go.WideShapes Go.ChangeAt Go.RowKit
theorem G_facts {ps : List ByteArray} {d : Nat} {x : St} (g : St.G ps d x) : (1 ≤ x.kind ∧ x.kind ≤ 8) ∧ (x.kind = 1 → x.name ∈ globL) ∧ (x.kind = 4 ∨ x.kind = 5 → x.name ∈ ps) ∧ (x.kind = 6 ∨ x.kind = 7 → x.name ∈ lockL) ∧ (x.kind ≤ 3 → TmG 2 x.term) ∧ ∃ d',St.GL ps d' x.body ∧ St.GL ps d' x.els:=by
 cases x with
 | set x t =>
  simp only [St.G] at g;exact ⟨by simp [St.kind],fun _=>set3_glob g.1,fun h=>by simp [St.kind] at h,fun h=>by simp [St.kind] at h,fun _=>g.2,0,by simp [St.body,St.GL],by simp [St.els,St.GL]⟩
 | word k x =>
  simp only [St.G] at g;exact ⟨by simp only [St.kind];omega,fun h=>by simp only [St.kind] at h;omega,fun h=>by simp only [St.kind] at h;simp only [St.name];rcases g with g | g;exact g.2;omega,fun h=>by simp only [St.kind] at h;simp only [St.name];rcases g with g | g;omega;exact g.2,fun h=>by simp only [St.kind] at h;omega,0,by simp [St.body,St.GL],by simp [St.els,St.GL]⟩
 | skip=>exact ⟨by simp [St.kind],fun h=>by simp [St.kind] at h,fun h=>by simp [St.kind] at h,fun h=>by simp [St.kind] at h,fun h=>by simp [St.kind] at h,0,by simp [St.body,St.GL],by simp [St.els,St.GL]⟩
 | loop t b =>
  simp only [St.G] at g;exact ⟨by simp [St.kind],fun h=>by simp [St.kind] at h,fun h=>by simp [St.kind] at h,fun h=>by simp [St.kind] at h,fun _=>g.2.1,_,g.2.2,by simp [St.els,St.GL]⟩
 | cond t b e =>
  simp only [St.G] at g;exact ⟨by simp [St.kind],fun h=>by simp [St.kind] at h,fun h=>by simp [St.kind] at h,fun h=>by simp [St.kind] at h,fun _=>g.2.1,_,g.2.2.1,g.2.2.2⟩
section
variable {gA lA pA : Option Addr} {gc lc pc : Nat} {nm : List ByteArray} {bs : List (List St)}
def UnkSaid (gA lA pA : Option Addr) (gc lc pc : Nat) (nm : List ByteArray) (bs : List (List St)) (ss : List St) : Prop:=∀ (d lo hi : Nat) (v : Value) (O : Option Addr) (on oc : Nat) (w : World),ProgAt w gA lA pA nm bs → St.GL nm d ss → StsIn w lo hi ss v → hi ≤ w.heap.size →
 Calls Try.prog 98 #[.agg #[.slice gA 4 gc,.slice lA 3 lc,.slice pA nm.length pc],v,.slice O on oc] w fun e w'=>e = .returned (.slice O on oc) ∧ Below w.heap.size w w'
def SBox (b : Nat) (kd : Int) (x : St) (A Ab Ae : Option Addr) (c cb ce : Nat) (W : World) : Prop :=
 W.cell? ⟨b,0,none⟩ = some (.int .i64 kd) ∧ W.cell? ⟨b,1,none⟩ = some (.string x.name) ∧ W.cell? ⟨b,2,none⟩ = some (.int .i64 x.term.kind) ∧ W.cell? ⟨b,3,none⟩ = some (.int .i64 x.term.num) ∧ W.cell? ⟨b,4,none⟩ = some (.string x.term.name) ∧
 W.cell? ⟨b,5,none⟩ = some (.slice A x.term.kids.length c) ∧ W.cell? ⟨b,6,none⟩ = some (.slice Ab x.body.length cb) ∧ W.cell? ⟨b,7,none⟩ = some (.slice Ae x.els.length ce)
theorem SBox.to {b : Nat} {kd : Int} {x : St} {A Ab Ae : Option Addr} {c cb ce : Nat} {W W' : World} (h : SBox b kd x A Ab Ae c cb ce W) (hb : Below W.heap.size W W') : SBox b kd x A Ab Ae c cb ce W' :=
 ⟨cell_below hb h.1,cell_below hb h.2.1,cell_below hb h.2.2.1,cell_below hb h.2.2.2.1,cell_below hb h.2.2.2.2.1,cell_below hb h.2.2.2.2.2.1,cell_below hb h.2.2.2.2.2.2.1,cell_below hb h.2.2.2.2.2.2.2⟩
theorem sbox (w : World) (kd : Int) (x : St) (A Ab Ae : Option Addr) (c cb ce : Nat) : SBox w.heap.size kd x A Ab Ae c cb ce (w.alloc (.cells #[.int .i64 kd,.string x.name,.int .i64 x.term.kind,.int .i64 x.term.num,.string x.term.name,.slice A x.term.kids.length c,.slice Ab x.body.length cb,.slice Ae x.els.length ce] 106)):=by
 obtain ⟨p,_⟩:=row_facts (heap_alloc_new w (.cells #[.int .i64 kd,.string x.name,.int .i64 x.term.kind,.int .i64 x.term.num,.string x.term.name,.slice A x.term.kids.length c,.slice Ab x.body.length cb,.slice Ae x.els.length ce] 106));exact ⟨p 0 _ rfl,p 1 _ rfl,p 2 _ rfl,p 3 _ rfl,p 4 _ rfl,p 5 _ rfl,p 6 _ rfl,p 7 _ rfl⟩
theorem l07Unknown_of (ss : List St) (hn : St.cntL ss ≤ 1048576) (hg : PG nm bs) (ih : ∀ zs : List St,St.cntL zs < St.cntL ss → UnkSaid gA lA pA gc lc pc nm bs zs) : UnkSaid gA lA pA gc lc pc nm bs ss:=by
 intro d lo hi v O on oc w hp hgl h hh;obtain ⟨A0,c0,rfl⟩:=h.form;have HI:=Lib.hid ih;have HG:=Lib.hid (GL_get ss hgl);have hsl:=cntL_len ss;have HS:=Lib.hid (fun V (hb : Below w.heap.size w V)=>sts_below h hb hh);have HP:=Lib.hid (fun V (h : Below w.heap.size w V)=>hp.below h);have HPB:=Lib.hid (pbox w gA lA pA gc lc pc nm.length);have HGG:=Lib.hid hg;have HPR:=Lib.hid (fun V (h : Below w.heap.size w V)=>(l07Procs_any (gc:=gc) (lc:=lc) (pc:=pc) V (hp.below h) hg));have HA1:=Lib.hid (fun V (h : Below w.heap.size w V) t (ht : t ∈ globL)=>(show Calls Try.prog 109 #[.slice O on oc,.slice gA 4 gc,.string t] V fun e w'=>e = .returned (.slice O on oc) ∧ w' = V from l07Add_any globL gA gc _ t V (hp.below h).g (by simp [globL]) ht));have HA2:=Lib.hid (fun V (h : Below w.heap.size w V) t (ht : t ∈ lockL)=>(show Calls Try.prog 109 #[.slice O on oc,.slice lA 3 lc,.string t] V fun e w'=>e = .returned (.slice O on oc) ∧ w' = V from l07Add_any lockL lA lc _ t V (hp.below h).l (by simp [lockL]) ht));have hn4:=hg.n4;clear ih hgl h hp hg
 go_enter Try.func98, Try.ntmps98
 go_wp2_with fail
 generalize w.alloc (.cells #[.slice gA 4 gc,.slice lA 3 lc,.slice pA nm.length pc] 83) = W0 at HPB ⊢;go_loopg [2,7,8,9,10] ss.length (fun m o i sp rd kk wr=>∃ j : Nat,j ≤ ss.length ∧ m = ss.length - j ∧ i = .int .i64 j ∧ o = .slice O on oc ∧ PBox w w.heap.size gA lA pA gc lc pc nm.length wr)
 case atStart=>exact ⟨0,by omega,by omega,rfl,rfl,HPB.out⟩
 case round =>
  clear HPB;obtain ⟨j,hj,rfl,rfl,rfl,hbx⟩:=hrel;obtain ⟨b0,b1,b2,hD⟩:=id hbx;have HBX:=Lib.hid hbx;have HD:=Lib.hid hD;clear hbx;by_cases hlt : j < ss.length
  ·
   have y1 : (j : Int) < (ss.length : Int):=by omega
   have y2 : (0 : Int) ≤ (j : Int):=by omega
   have hsub:=subs_cnt ss[j];have hle : St.cnt ss[j] ≤ St.cntL ss:=cnt_le hlt;have hszD:=hD.size;obtain ⟨ad,cap,A,c,Ab,cb,Ae,ce,m,n',e,eo,es,_,_,k0,k1,k2,k3,k4,k5,k6,k7,q1,q2,q3,q4,hk,hb,he⟩:=(HS.out _ hD).get hlt;injection e with e1 e2 e3;subst e1 e3;have hgx:=HG.out j hlt;generalize hx : ss[j] = x at k0 k1 k2 k3 k4 k5 k6 k7 hk hb he hsub hle hgx;clear hx;obtain ⟨hk18,hg1,hg4,hg6,hg3,d',hgb,hge⟩:=G_facts hgx;have HHB:=Lib.hid (fun V (hV : Below wr.heap.size wr V)=>HI.out x.body (by omega) d' m n' _ O on oc V (HP.out V (below_trans' hD hV)) hgb (sts_below hb hV (by omega)) (by have:=hV.size;omega));have HHE:=Lib.hid (fun V (hV : Below wr.heap.size wr V)=>HI.out x.els (by omega) d' m n' _ O on oc V (HP.out V (below_trans' hD hV)) hge (sts_below he hV (by omega)) (by have:=hV.size;omega));have HRD:=Lib.hid (fun V (hV : Below wr.heap.size wr V) (h3 : x.kind ≤ 3)=>readsOf_s (B:=wr.heap.size) (L:=1048576) x.term A c V ((hk.sub (by omega) high_low).below hV) (hg3 h3).b (by omega));have HR1:=Lib.hid (fun (h3 : x.kind ≤ 3) t (ht : t ∈ readsOf x.term)=>(hg3 h3).readsOf ht);have HRL:=Lib.hid (readsF_len6 x.term);clear hk hb he hgb hge hg3 hgx eo es hD;have hbA:=fun kd=>sbox wr kd x A Ab Ae c cb ce;have HSB:=Lib.hid hbA;clear hbA;have HBA:=Lib.hid (fun kd=>HBX.out.to (below_alloc0 wr (.cells #[.int .i64 kd,.string x.name,.int .i64 x.term.kind,.int .i64 x.term.num,.string x.term.name,.slice A x.term.kids.length c,.slice Ab x.body.length cb,.slice Ae x.els.length ce] 106)));have HBL:=Lib.hid (fun kd=>below_alloc0 wr (.cells #[.int .i64 kd,.string x.name,.int .i64 x.term.kind,.int .i64 x.term.num,.string x.term.name,.slice A x.term.kids.length c,.slice Ab x.body.length cb,.slice Ae x.els.length ce] 106));generalize hkd : x.kind = kd at k0 hk18 hg1 hg4 hg6 HRD HR1;clear hkd;have HG1:=Lib.hid hg1;have HG4:=Lib.hid hg4;have HG6:=Lib.hid hg6;clear hg1 hg4 hg6;rcases (show kd = 1 ∨ kd = 2 ∨ kd = 3 ∨ kd = 4 ∨ kd = 5 ∨ kd = 6 ∨ kd = 7 ∨ kd = 8 by omega) with rfl | rfl | rfl | rfl | rfl | rfl | rfl | rfl
   ·
    have hsb:=HSB.out 1;have hbx:=HBA.out 1;have hbl:=HBL.out 1;have hkk:=k0;obtain ⟨s0,s1,s2,s3,s4,s5,s6,s7⟩:=id hsb;obtain ⟨p0,p1,p2,p3⟩:=id hbx;go_wp2_with fail
    generalize wr.alloc (.cells #[.int .i64 1,.string x.name,.int .i64 x.term.kind,.int .i64 x.term.num,.string x.term.name,.slice A x.term.kids.length c,.slice Ab x.body.length cb,.slice Ae x.els.length ce] 106) = W at hsb hbx hbl s0 s1 s2 s3 s4 s5 s6 s7 p0 p1 p2 p3 ⊢;clear k0 k1 k2 k3 k4 k5 k6 k7 hkk b0 b1 b2 HSB HBA HBL;refine (HA1.out _ (below_trans' HD.out hbl) _ (HG1.out (by simp))).mono ?_;rintro e w2 ⟨rfl,rfl⟩;go_wp2_with fail
    clear s0 s1 s2 s3 s4 s5 s6 s7 p0 p1 p2 p3;refine (HRD.out _ hbl (by omega)).mono ?_;rintro e w3 ⟨Ar,cr,rfl,hor,hb3⟩;have hsbc:=hsb.to hb3;have hbxc:=hbx.to hb3;have hblc:=below_trans' hbl hb3;clear hsb hbx hbl;obtain ⟨s0c,s1c,s2c,s3c,s4c,s5c,s6c,s7c⟩:=id hsbc;obtain ⟨p0c,p1c,p2c,p3c⟩:=id hbxc;have hrr:=own_rd hor;have HRR:=Lib.hid (HR1.out (by omega));have hrl:=HRL.out;generalize readsOf x.term = rs at hrr HRR hor hrl ⊢;have HBLC:=Lib.hid hblc;have HSBC:=Lib.hid hsbc;have HBXC:=Lib.hid hbxc;clear hor hsbc hbxc hblc;clear s0c s1c s2c s3c s4c s5c s6c s7c p0c p1c p2c p3c;go_wp2_with fail
    go_loopg [2,10] rs.length (fun l o kk wr=>∃ q : Nat,q ≤ rs.length ∧ l = rs.length - q ∧ kk = .int .i64 q ∧ o = .slice O on oc ∧ Drew w3 wr)
    case atStart=>exact ⟨0,by omega,by omega,rfl,rfl,Drew.refl _⟩
    case round =>
     obtain ⟨q,hq,rfl,rfl,rfl,hdr⟩:=hrel;have HDR:=Lib.hid hdr;have hb5:=hdr.below w3.heap.size;have hsb5:=HSBC.out.to hb5;have hbx5:=HBXC.out.to hb5;have hbl5:=below_trans' HBLC.out hb5;have hrr5:=hdr.rd hrr;clear hdr hb5;by_cases hqt : q < rs.length
     ·
      have v1 : (q : Int) < (rs.length : Int):=by omega
      have v2 : (0 : Int) ≤ (q : Int):=by omega
      obtain ⟨ar,rfl,hb6,hcr⟩:=hrr5.str hqt;obtain ⟨s05,s15,s25,s35,s45,s55,s65,s75⟩:=id hsb5;obtain ⟨p05,p15,p25,p35⟩:=id hbx5;have HAD:=Lib.hid (fun V (hV : Drew wr V)=>(HA1.out V (below_trans' HD.out (below_trans' hbl5 (hV.below _))) rs[q] (HRR.out _ (List.getElem_mem hqt))).mono fun e w' h=>(show e = .returned (.slice O on oc) ∧ ∃ m,w' = V.drewN m from ⟨h.1,0,h.2⟩));clear hrr hrr5 hsb5 hbx5 hbl5;go_wp2_with fail
      go_quiet ((go_at_call 109;with_reducible exact quiet_more (HAD.out _ (drew_n _ _))))
      go_wp2
      go_roundg (rs.length - (q + 1))
      case measure=>omega
      case rel=>exact ⟨q + 1,by omega,rfl,by go_num,rfl,HDR.out.more _⟩
     ·
      obtain rfl : q = rs.length:=by omega
      obtain ⟨s05,s15,s25,s35,s45,s55,s65,s75⟩:=id hsb5;obtain ⟨p05,p15,p25,p35⟩:=id hbx5;go_wp2_with fail
      clear s05 s15 s25 s35 s45 s55 s65 s75 p05 p15 p25 p35;refine (HHB.out _ hbl5).mono ?_;rintro e w8 ⟨rfl,hb8⟩;have hsbh:=hsb5.to hb8;have hbxh:=hbx5.to hb8;have hblh:=below_trans' hbl5 hb8;clear hsb5 hbx5 hbl5;obtain ⟨s0h,s1h,s2h,s3h,s4h,s5h,s6h,s7h⟩:=id hsbh;obtain ⟨p0h,p1h,p2h,p3h⟩:=id hbxh;go_wp2_with fail
      clear s0h s1h s2h s3h s4h s5h s6h s7h p0h p1h p2h p3h;refine (HHE.out _ hblh).mono ?_;rintro e w9 ⟨rfl,hb9⟩;have hsbi:=hsbh.to hb9;have hbxi:=hbxh.to hb9;have hbli:=below_trans' hblh hb9;clear hsbh hbxh hblh;go_wp2_with fail
      go_roundg (ss.length - (j + 1))
      case measure=>omega
      case rel=>exact ⟨j + 1,by omega,rfl,by go_num,rfl,hbxi⟩
   ·
    have hsb:=HSB.out 2;have hbx:=HBA.out 2;have hbl:=HBL.out 2;have hkk:=k0;obtain ⟨s0,s1,s2,s3,s4,s5,s6,s7⟩:=id hsb;obtain ⟨p0,p1,p2,p3⟩:=id hbx;go_wp2_with fail
    generalize wr.alloc (.cells #[.int .i64 2,.string x.name,.int .i64 x.term.kind,.int .i64 x.term.num,.string x.term.name,.slice A x.term.kids.length c,.slice Ab x.body.length cb,.slice Ae x.els.length ce] 106) = W at hsb hbx hbl s0 s1 s2 s3 s4 s5 s6 s7 p0 p1 p2 p3 ⊢;clear k0 k1 k2 k3 k4 k5 k6 k7 hkk b0 b1 b2 HSB HBA HBL;clear s0 s1 s2 s3 s4 s5 s6 s7 p0 p1 p2 p3;refine (HRD.out _ hbl (by omega)).mono ?_;rintro e w3 ⟨Ar,cr,rfl,hor,hb3⟩;have hsbc:=hsb.to hb3;have hbxc:=hbx.to hb3;have hblc:=below_trans' hbl hb3;clear hsb hbx hbl;obtain ⟨s0c,s1c,s2c,s3c,s4c,s5c,s6c,s7c⟩:=id hsbc;obtain ⟨p0c,p1c,p2c,p3c⟩:=id hbxc;have hrr:=own_rd hor;have HRR:=Lib.hid (HR1.out (by omega));have hrl:=HRL.out;generalize readsOf x.term = rs at hrr HRR hor hrl ⊢;have HBLC:=Lib.hid hblc;have HSBC:=Lib.hid hsbc;have HBXC:=Lib.hid hbxc;clear hor hsbc hbxc hblc;clear s0c s1c s2c s3c s4c s5c s6c s7c p0c p1c p2c p3c;go_wp2_with fail
    go_loopg [2,10] rs.length (fun l o kk wr=>∃ q : Nat,q ≤ rs.length ∧ l = rs.length - q ∧ kk = .int .i64 q ∧ o = .slice O on oc ∧ Drew w3 wr)
    case atStart=>exact ⟨0,by omega,by omega,rfl,rfl,Drew.refl _⟩
    case round =>
     obtain ⟨q,hq,rfl,rfl,rfl,hdr⟩:=hrel;have HDR:=Lib.hid hdr;have hb5:=hdr.below w3.heap.size;have hsb5:=HSBC.out.to hb5;have hbx5:=HBXC.out.to hb5;have hbl5:=below_trans' HBLC.out hb5;have hrr5:=hdr.rd hrr;clear hdr hb5;by_cases hqt : q < rs.length
     ·
      have v1 : (q : Int) < (rs.length : Int):=by omega
      have v2 : (0 : Int) ≤ (q : Int):=by omega
      obtain ⟨ar,rfl,hb6,hcr⟩:=hrr5.str hqt;obtain ⟨s05,s15,s25,s35,s45,s55,s65,s75⟩:=id hsb5;obtain ⟨p05,p15,p25,p35⟩:=id hbx5;have HAD:=Lib.hid (fun V (hV : Drew wr V)=>(HA1.out V (below_trans' HD.out (below_trans' hbl5 (hV.below _))) rs[q] (HRR.out _ (List.getElem_mem hqt))).mono fun e w' h=>(show e = .returned (.slice O on oc) ∧ ∃ m,w' = V.drewN m from ⟨h.1,0,h.2⟩));clear hrr hrr5 hsb5 hbx5 hbl5;go_wp2_with fail
      go_quiet ((go_at_call 109;with_reducible exact quiet_more (HAD.out _ (drew_n _ _))))
      go_wp2
      go_roundg (rs.length - (q + 1))
      case measure=>omega
      case rel=>exact ⟨q + 1,by omega,rfl,by go_num,rfl,HDR.out.more _⟩
     ·
      obtain rfl : q = rs.length:=by omega
      obtain ⟨s05,s15,s25,s35,s45,s55,s65,s75⟩:=id hsb5;obtain ⟨p05,p15,p25,p35⟩:=id hbx5;go_wp2_with fail
      clear s05 s15 s25 s35 s45 s55 s65 s75 p05 p15 p25 p35;refine (HHB.out _ hbl5).mono ?_;rintro e w8 ⟨rfl,hb8⟩;have hsbh:=hsb5.to hb8;have hbxh:=hbx5.to hb8;have hblh:=below_trans' hbl5 hb8;clear hsb5 hbx5 hbl5;obtain ⟨s0h,s1h,s2h,s3h,s4h,s5h,s6h,s7h⟩:=id hsbh;obtain ⟨p0h,p1h,p2h,p3h⟩:=id hbxh;go_wp2_with fail
      clear s0h s1h s2h s3h s4h s5h s6h s7h p0h p1h p2h p3h;refine (HHE.out _ hblh).mono ?_;rintro e w9 ⟨rfl,hb9⟩;have hsbi:=hsbh.to hb9;have hbxi:=hbxh.to hb9;have hbli:=below_trans' hblh hb9;clear hsbh hbxh hblh;go_wp2_with fail
      go_roundg (ss.length - (j + 1))
      case measure=>omega
      case rel=>exact ⟨j + 1,by omega,rfl,by go_num,rfl,hbxi⟩
   ·
    have hsb:=HSB.out 3;have hbx:=HBA.out 3;have hbl:=HBL.out 3;have hkk:=k0;obtain ⟨s0,s1,s2,s3,s4,s5,s6,s7⟩:=id hsb;obtain ⟨p0,p1,p2,p3⟩:=id hbx;go_wp2_with fail
    generalize wr.alloc (.cells #[.int .i64 3,.string x.name,.int .i64 x.term.kind,.int .i64 x.term.num,.string x.term.name,.slice A x.term.kids.length c,.slice Ab x.body.length cb,.slice Ae x.els.length ce] 106) = W at hsb hbx hbl s0 s1 s2 s3 s4 s5 s6 s7 p0 p1 p2 p3 ⊢;clear k0 k1 k2 k3 k4 k5 k6 k7 hkk b0 b1 b2 HSB HBA HBL;clear s0 s1 s2 s3 s4 s5 s6 s7 p0 p1 p2 p3;refine (HRD.out _ hbl (by omega)).mono ?_;rintro e w3 ⟨Ar,cr,rfl,hor,hb3⟩;have hsbc:=hsb.to hb3;have hbxc:=hbx.to hb3;have hblc:=below_trans' hbl hb3;clear hsb hbx hbl;obtain ⟨s0c,s1c,s2c,s3c,s4c,s5c,s6c,s7c⟩:=id hsbc;obtain ⟨p0c,p1c,p2c,p3c⟩:=id hbxc;have hrr:=own_rd hor;have HRR:=Lib.hid (HR1.out (by omega));have hrl:=HRL.out;generalize readsOf x.term = rs at hrr HRR hor hrl ⊢;have HBLC:=Lib.hid hblc;have HSBC:=Lib.hid hsbc;have HBXC:=Lib.hid hbxc;clear hor hsbc hbxc hblc;clear s0c s1c s2c s3c s4c s5c s6c s7c p0c p1c p2c p3c;go_wp2_with fail
    go_loopg [2,10] rs.length (fun l o kk wr=>∃ q : Nat,q ≤ rs.length ∧ l = rs.length - q ∧ kk = .int .i64 q ∧ o = .slice O on oc ∧ Drew w3 wr)
    case atStart=>exact ⟨0,by omega,by omega,rfl,rfl,Drew.refl _⟩
    case round =>
     obtain ⟨q,hq,rfl,rfl,rfl,hdr⟩:=hrel;have HDR:=Lib.hid hdr;have hb5:=hdr.below w3.heap.size;have hsb5:=HSBC.out.to hb5;have hbx5:=HBXC.out.to hb5;have hbl5:=below_trans' HBLC.out hb5;have hrr5:=hdr.rd hrr;clear hdr hb5;by_cases hqt : q < rs.length
     ·
      have v1 : (q : Int) < (rs.length : Int):=by omega
      have v2 : (0 : Int) ≤ (q : Int):=by omega
      obtain ⟨ar,rfl,hb6,hcr⟩:=hrr5.str hqt;obtain ⟨s05,s15,s25,s35,s45,s55,s65,s75⟩:=id hsb5;obtain ⟨p05,p15,p25,p35⟩:=id hbx5;have HAD:=Lib.hid (fun V (hV : Drew wr V)=>(HA1.out V (below_trans' HD.out (below_trans' hbl5 (hV.below _))) rs[q] (HRR.out _ (List.getElem_mem hqt))).mono fun e w' h=>(show e = .returned (.slice O on oc) ∧ ∃ m,w' = V.drewN m from ⟨h.1,0,h.2⟩));clear hrr hrr5 hsb5 hbx5 hbl5;go_wp2_with fail
      go_quiet ((go_at_call 109;with_reducible exact quiet_more (HAD.out _ (drew_n _ _))))
      go_wp2
      go_roundg (rs.length - (q + 1))
      case measure=>omega
      case rel=>exact ⟨q + 1,by omega,rfl,by go_num,rfl,HDR.out.more _⟩
     ·
      obtain rfl : q = rs.length:=by omega
      obtain ⟨s05,s15,s25,s35,s45,s55,s65,s75⟩:=id hsb5;obtain ⟨p05,p15,p25,p35⟩:=id hbx5;go_wp2_with fail
      clear s05 s15 s25 s35 s45 s55 s65 s75 p05 p15 p25 p35;refine (HHB.out _ hbl5).mono ?_;rintro e w8 ⟨rfl,hb8⟩;have hsbh:=hsb5.to hb8;have hbxh:=hbx5.to hb8;have hblh:=below_trans' hbl5 hb8;clear hsb5 hbx5 hbl5;obtain ⟨s0h,s1h,s2h,s3h,s4h,s5h,s6h,s7h⟩:=id hsbh;obtain ⟨p0h,p1h,p2h,p3h⟩:=id hbxh;go_wp2_with fail
      clear s0h s1h s2h s3h s4h s5h s6h s7h p0h p1h p2h p3h;refine (HHE.out _ hblh).mono ?_;rintro e w9 ⟨rfl,hb9⟩;have hsbi:=hsbh.to hb9;have hbxi:=hbxh.to hb9;have hbli:=below_trans' hblh hb9;clear hsbh hbxh hblh;go_wp2_with fail
      go_roundg (ss.length - (j + 1))
      case measure=>omega
      case rel=>exact ⟨j + 1,by omega,rfl,by go_num,rfl,hbxi⟩
   ·
    have hsb:=HSB.out 4;have hbx:=HBA.out 4;have hbl:=HBL.out 4;have hkk:=k0;obtain ⟨s0,s1,s2,s3,s4,s5,s6,s7⟩:=id hsb;obtain ⟨p0,p1,p2,p3⟩:=id hbx;go_wp2_with fail
    generalize wr.alloc (.cells #[.int .i64 4,.string x.name,.int .i64 x.term.kind,.int .i64 x.term.num,.string x.term.name,.slice A x.term.kids.length c,.slice Ab x.body.length cb,.slice Ae x.els.length ce] 106) = W at hsb hbx hbl s0 s1 s2 s3 s4 s5 s6 s7 p0 p1 p2 p3 ⊢;clear k0 k1 k2 k3 k4 k5 k6 k7 hkk b0 b1 b2 HSB HBA HBL;clear s0 s1 s2 s3 s4 s5 s6 s7 p0 p1 p2 p3;refine wp_region_held_drew (S:=fun w'=>Below W.heap.size W w') (by kernel_rfl) ((Below.refl _ _).drew) (fun hHeld=>?_);first | refine hs_ 0 ?_ | (refine hr_ 0 ?_ ?_ ?_;rotate_left;(intro W hW;have hsbq:=hsb.to hW;have hbxq:=hbx.to hW;obtain ⟨s0q,s1q,_⟩:=id hsbq;obtain ⟨p0q,p1q,p2q,_⟩:=id hbxq;go_simp;try with_reducible rfl))
    first | refine hs_ 1 ?_ | (refine hr_ 1 ?_ ?_ ?_;rotate_left;(intro W hW;have hsbq:=hsb.to hW;have hbxq:=hbx.to hW;obtain ⟨s0q,s1q,_⟩:=id hsbq;obtain ⟨p0q,p1q,p2q,_⟩:=id hbxq;go_simp;try with_reducible rfl))
    first | refine hs_ 3 ?_ | (refine hr_ 3 ?_ ?_ ?_;rotate_left;(intro W hW;have hsbq:=hsb.to hW;have hbxq:=hbx.to hW;obtain ⟨s0q,s1q,_⟩:=id hsbq;obtain ⟨p0q,p1q,p2q,_⟩:=id hbxq;go_simp;try with_reducible rfl))
    first | refine hs_ 4 ?_ | (refine hr_ 4 ?_ ?_ ?_;rotate_left;(intro W hW;have hsbq:=hsb.to hW;have hbxq:=hbx.to hW;obtain ⟨s0q,s1q,_⟩:=id hsbq;obtain ⟨p0q,p1q,p2q,_⟩:=id hbxq;go_simp;try with_reducible rfl))
    refine ho_ 2 fun K hK=>?_;go_simp
    refine (HPR.out _ (below_trans' HD.out (below_trans' hbl hHeld))).mono ?_;rintro e w4 ⟨An,cn,rfl,hon,hb4⟩;have hrn:=own_rd hon;refine hk_ hK (below_trans' hHeld hb4) fun hHeld=>?_;clear hK K;refine ho_ 5 fun K hK=>?_;go_simp
    refine (l07Add_any nm An cn _ x.name _ hrn (by omega) (HG4.out (by simp))).mono ?_;rintro e w5 ⟨rfl,rfl⟩;refine hk_ hK (hHeld) fun hHeld=>?_;clear hK K;first | refine hs_ 6 ?_ | (refine hr_ 6 ?_ ?_ ?_;rotate_left;(intro W hW;have hsbq:=hsb.to hW;have hbxq:=hbx.to hW;obtain ⟨s0q,s1q,_⟩:=id hsbq;obtain ⟨p0q,p1q,p2q,_⟩:=id hbxq;go_simp;try with_reducible rfl))
    refine wpAnyH_done (by kernel_rfl) ?_ _;have hsbd:=hsb.to hHeld;have hbxd:=hbx.to hHeld;have hbld:=below_trans' hbl hHeld;clear hsb hbx hbl;obtain ⟨s0d,s1d,s2d,s3d,s4d,s5d,s6d,s7d⟩:=id hsbd;obtain ⟨p0d,p1d,p2d,p3d⟩:=id hbxd;clear hHeld;go_wp2_with fail
    clear s0d s1d s2d s3d s4d s5d s6d s7d p0d p1d p2d p3d;refine (HHB.out _ hbld).mono ?_;rintro e w8 ⟨rfl,hb8⟩;have hsbh:=hsbd.to hb8;have hbxh:=hbxd.to hb8;have hblh:=below_trans' hbld hb8;clear hsbd hbxd hbld;obtain ⟨s0h,s1h,s2h,s3h,s4h,s5h,s6h,s7h⟩:=id hsbh;obtain ⟨p0h,p1h,p2h,p3h⟩:=id hbxh;go_wp2_with fail
    clear s0h s1h s2h s3h s4h s5h s6h s7h p0h p1h p2h p3h;refine (HHE.out _ hblh).mono ?_;rintro e w9 ⟨rfl,hb9⟩;have hsbi:=hsbh.to hb9;have hbxi:=hbxh.to hb9;have hbli:=below_trans' hblh hb9;clear hsbh hbxh hblh;go_wp2_with fail
    go_roundg (ss.length - (j + 1))
    case measure=>omega
    case rel=>exact ⟨j + 1,by omega,rfl,by go_num,rfl,hbxi⟩
   ·
    have hsb:=HSB.out 5;have hbx:=HBA.out 5;have hbl:=HBL.out 5;have hkk:=k0;obtain ⟨s0,s1,s2,s3,s4,s5,s6,s7⟩:=id hsb;obtain ⟨p0,p1,p2,p3⟩:=id hbx;go_wp2_with fail
    generalize wr.alloc (.cells #[.int .i64 5,.string x.name,.int .i64 x.term.kind,.int .i64 x.term.num,.string x.term.name,.slice A x.term.kids.length c,.slice Ab x.body.length cb,.slice Ae x.els.length ce] 106) = W at hsb hbx hbl s0 s1 s2 s3 s4 s5 s6 s7 p0 p1 p2 p3 ⊢;clear k0 k1 k2 k3 k4 k5 k6 k7 hkk b0 b1 b2 HSB HBA HBL;clear s0 s1 s2 s3 s4 s5 s6 s7 p0 p1 p2 p3;refine wp_region_held_drew (S:=fun w'=>Below W.heap.size W w') (by kernel_rfl) ((Below.refl _ _).drew) (fun hHeld=>?_);first | refine hs_ 0 ?_ | (refine hr_ 0 ?_ ?_ ?_;rotate_left;(intro W hW;have hsbq:=hsb.to hW;have hbxq:=hbx.to hW;obtain ⟨s0q,s1q,_⟩:=id hsbq;obtain ⟨p0q,p1q,p2q,_⟩:=id hbxq;go_simp;try with_reducible rfl))
    first | refine hs_ 1 ?_ | (refine hr_ 1 ?_ ?_ ?_;rotate_left;(intro W hW;have hsbq:=hsb.to hW;have hbxq:=hbx.to hW;obtain ⟨s0q,s1q,_⟩:=id hsbq;obtain ⟨p0q,p1q,p2q,_⟩:=id hbxq;go_simp;try with_reducible rfl))
    first | refine hs_ 3 ?_ | (refine hr_ 3 ?_ ?_ ?_;rotate_left;(intro W hW;have hsbq:=hsb.to hW;have hbxq:=hbx.to hW;obtain ⟨s0q,s1q,_⟩:=id hsbq;obtain ⟨p0q,p1q,p2q,_⟩:=id hbxq;go_simp;try with_reducible rfl))
    first | refine hs_ 4 ?_ | (refine hr_ 4 ?_ ?_ ?_;rotate_left;(intro W hW;have hsbq:=hsb.to hW;have hbxq:=hbx.to hW;obtain ⟨s0q,s1q,_⟩:=id hsbq;obtain ⟨p0q,p1q,p2q,_⟩:=id hbxq;go_simp;try with_reducible rfl))
    refine ho_ 2 fun K hK=>?_;go_simp
    refine (HPR.out _ (below_trans' HD.out (below_trans' hbl hHeld))).mono ?_;rintro e w4 ⟨An,cn,rfl,hon,hb4⟩;have hrn:=own_rd hon;refine hk_ hK (below_trans' hHeld hb4) fun hHeld=>?_;clear hK K;refine ho_ 5 fun K hK=>?_;go_simp
    refine (l07Add_any nm An cn _ x.name _ hrn (by omega) (HG4.out (by simp))).mono ?_;rintro e w5 ⟨rfl,rfl⟩;refine hk_ hK (hHeld) fun hHeld=>?_;clear hK K;first | refine hs_ 6 ?_ | (refine hr_ 6 ?_ ?_ ?_;rotate_left;(intro W hW;have hsbq:=hsb.to hW;have hbxq:=hbx.to hW;obtain ⟨s0q,s1q,_⟩:=id hsbq;obtain ⟨p0q,p1q,p2q,_⟩:=id hbxq;go_simp;try with_reducible rfl))
    refine wpAnyH_done (by kernel_rfl) ?_ _;have hsbd:=hsb.to hHeld;have hbxd:=hbx.to hHeld;have hbld:=below_trans' hbl hHeld;clear hsb hbx hbl;obtain ⟨s0d,s1d,s2d,s3d,s4d,s5d,s6d,s7d⟩:=id hsbd;obtain ⟨p0d,p1d,p2d,p3d⟩:=id hbxd;clear hHeld;go_wp2_with fail
    clear s0d s1d s2d s3d s4d s5d s6d s7d p0d p1d p2d p3d;refine (HHB.out _ hbld).mono ?_;rintro e w8 ⟨rfl,hb8⟩;have hsbh:=hsbd.to hb8;have hbxh:=hbxd.to hb8;have hblh:=below_trans' hbld hb8;clear hsbd hbxd hbld;obtain ⟨s0h,s1h,s2h,s3h,s4h,s5h,s6h,s7h⟩:=id hsbh;obtain ⟨p0h,p1h,p2h,p3h⟩:=id hbxh;go_wp2_with fail
    clear s0h s1h s2h s3h s4h s5h s6h s7h p0h p1h p2h p3h;refine (HHE.out _ hblh).mono ?_;rintro e w9 ⟨rfl,hb9⟩;have hsbi:=hsbh.to hb9;have hbxi:=hbxh.to hb9;have hbli:=below_trans' hblh hb9;clear hsbh hbxh hblh;go_wp2_with fail
    go_roundg (ss.length - (j + 1))
    case measure=>omega
    case rel=>exact ⟨j + 1,by omega,rfl,by go_num,rfl,hbxi⟩
   ·
    have hsb:=HSB.out 6;have hbx:=HBA.out 6;have hbl:=HBL.out 6;have hkk:=k0;obtain ⟨s0,s1,s2,s3,s4,s5,s6,s7⟩:=id hsb;obtain ⟨p0,p1,p2,p3⟩:=id hbx;go_wp2_with fail
    generalize wr.alloc (.cells #[.int .i64 6,.string x.name,.int .i64 x.term.kind,.int .i64 x.term.num,.string x.term.name,.slice A x.term.kids.length c,.slice Ab x.body.length cb,.slice Ae x.els.length ce] 106) = W at hsb hbx hbl s0 s1 s2 s3 s4 s5 s6 s7 p0 p1 p2 p3 ⊢;clear k0 k1 k2 k3 k4 k5 k6 k7 hkk b0 b1 b2 HSB HBA HBL;refine (HA2.out _ (below_trans' HD.out hbl) _ (HG6.out (by simp))).mono ?_;rintro e w2 ⟨rfl,rfl⟩;go_wp2_with fail
    clear s0 s1 s2 s3 s4 s5 s6 s7 p0 p1 p2 p3;refine (HHB.out _ hbl).mono ?_;rintro e w8 ⟨rfl,hb8⟩;have hsbh:=hsb.to hb8;have hbxh:=hbx.to hb8;have hblh:=below_trans' hbl hb8;clear hsb hbx hbl;obtain ⟨s0h,s1h,s2h,s3h,s4h,s5h,s6h,s7h⟩:=id hsbh;obtain ⟨p0h,p1h,p2h,p3h⟩:=id hbxh;go_wp2_with fail
    clear s0h s1h s2h s3h s4h s5h s6h s7h p0h p1h p2h p3h;refine (HHE.out _ hblh).mono ?_;rintro e w9 ⟨rfl,hb9⟩;have hsbi:=hsbh.to hb9;have hbxi:=hbxh.to hb9;have hbli:=below_trans' hblh hb9;clear hsbh hbxh hblh;go_wp2_with fail
    go_roundg (ss.length - (j + 1))
    case measure=>omega
    case rel=>exact ⟨j + 1,by omega,rfl,by go_num,rfl,hbxi⟩
   ·
    have hsb:=HSB.out 7;have hbx:=HBA.out 7;have hbl:=HBL.out 7;have hkk:=k0;obtain ⟨s0,s1,s2,s3,s4,s5,s6,s7⟩:=id hsb;obtain ⟨p0,p1,p2,p3⟩:=id hbx;go_wp2_with fail
    generalize wr.alloc (.cells #[.int .i64 7,.string x.name,.int .i64 x.term.kind,.int .i64 x.term.num,.string x.term.name,.slice A x.term.kids.length c,.slice Ab x.body.length cb,.slice Ae x.els.length ce] 106) = W at hsb hbx hbl s0 s1 s2 s3 s4 s5 s6 s7 p0 p1 p2 p3 ⊢;clear k0 k1 k2 k3 k4 k5 k6 k7 hkk b0 b1 b2 HSB HBA HBL;refine (HA2.out _ (below_trans' HD.out hbl) _ (HG6.out (by simp))).mono ?_;rintro e w2 ⟨rfl,rfl⟩;go_wp2_with fail
    clear s0 s1 s2 s3 s4 s5 s6 s7 p0 p1 p2 p3;refine (HHB.out _ hbl).mono ?_;rintro e w8 ⟨rfl,hb8⟩;have hsbh:=hsb.to hb8;have hbxh:=hbx.to hb8;have hblh:=below_trans' hbl hb8;clear hsb hbx hbl;obtain ⟨s0h,s1h,s2h,s3h,s4h,s5h,s6h,s7h⟩:=id hsbh;obtain ⟨p0h,p1h,p2h,p3h⟩:=id hbxh;go_wp2_with fail
    clear s0h s1h s2h s3h s4h s5h s6h s7h p0h p1h p2h p3h;refine (HHE.out _ hblh).mono ?_;rintro e w9 ⟨rfl,hb9⟩;have hsbi:=hsbh.to hb9;have hbxi:=hbxh.to hb9;have hbli:=below_trans' hblh hb9;clear hsbh hbxh hblh;go_wp2_with fail
    go_roundg (ss.length - (j + 1))
    case measure=>omega
    case rel=>exact ⟨j + 1,by omega,rfl,by go_num,rfl,hbxi⟩
   ·
    have hsb:=HSB.out 8;have hbx:=HBA.out 8;have hbl:=HBL.out 8;have hkk:=k0;obtain ⟨s0,s1,s2,s3,s4,s5,s6,s7⟩:=id hsb;obtain ⟨p0,p1,p2,p3⟩:=id hbx;go_wp2_with fail
    generalize wr.alloc (.cells #[.int .i64 8,.string x.name,.int .i64 x.term.kind,.int .i64 x.term.num,.string x.term.name,.slice A x.term.kids.length c,.slice Ab x.body.length cb,.slice Ae x.els.length ce] 106) = W at hsb hbx hbl s0 s1 s2 s3 s4 s5 s6 s7 p0 p1 p2 p3 ⊢;clear k0 k1 k2 k3 k4 k5 k6 k7 hkk b0 b1 b2 HSB HBA HBL;clear s0 s1 s2 s3 s4 s5 s6 s7 p0 p1 p2 p3;refine (HHB.out _ hbl).mono ?_;rintro e w8 ⟨rfl,hb8⟩;have hsbh:=hsb.to hb8;have hbxh:=hbx.to hb8;have hblh:=below_trans' hbl hb8;clear hsb hbx hbl;obtain ⟨s0h,s1h,s2h,s3h,s4h,s5h,s6h,s7h⟩:=id hsbh;obtain ⟨p0h,p1h,p2h,p3h⟩:=id hbxh;go_wp2_with fail
    clear s0h s1h s2h s3h s4h s5h s6h s7h p0h p1h p2h p3h;refine (HHE.out _ hblh).mono ?_;rintro e w9 ⟨rfl,hb9⟩;have hsbi:=hsbh.to hb9;have hbxi:=hbxh.to hb9;have hbli:=below_trans' hblh hb9;clear hsbh hbxh hblh;go_wp2_with fail
    go_roundg (ss.length - (j + 1))
    case measure=>omega
    case rel=>exact ⟨j + 1,by omega,rfl,by go_num,rfl,hbxi⟩
  ·
   obtain rfl : j = ss.length:=by omega
   clear hD;go_wp2_with fail
   go_ret
   exact ⟨rfl,HD.out⟩
theorem l07Unknown_any (ss : List St) (hn : St.cntL ss ≤ 1048576) (hg : PG nm bs) : UnkSaid gA lA pA gc lc pc nm bs ss:=by
 have : ∀ (n : Nat) (ss : List St),St.cntL ss < n → St.cntL ss ≤ 1048576 → UnkSaid gA lA pA gc lc pc nm bs ss:=by
  intro n;induction n with
  | zero=>intro ss h;omega
  | succ n ih=>intro ss h hn;exact l07Unknown_of ss hn hg fun zs hz=>ih zs (by omega) (by omega)
 exact this _ ss (Nat.lt_succ_self _) hn
end
end Go.Proofs.Ytkgoajnnkimkaaa
