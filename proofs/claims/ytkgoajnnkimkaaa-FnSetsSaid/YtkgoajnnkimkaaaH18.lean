/- Contracts of the reference's ProgOk, UnknownIn, ProgFault for drawn programs: they are right. -/
import Derived.Test.YtkgoajnnkimkaaaH17
set_option linter.unusedSimpArgs false
set_option linter.unusedVariables false
set_option maxRecDepth 100000
set_option maxHeartbeats 16000000
namespace Go.Proofs.Ytkgoajnnkimkaaa
open Go.ChangeShapes Go.WideShapes Go.ChangeAt Go.RowKit
section
variable {gA lA pA : Option Addr} {gc lc pc : Nat} {nm : List ByteArray} {bs : List (List St)}
theorem glob_ok : areNamesB globL 6 = true:=by decide +kernel
theorem lock_ok : areNamesB lockL 6 = true:=by decide +kernel
theorem glob_once : twiceB globL = false:=by decide +kernel
theorem lock_once : twiceB lockL = false:=by decide +kernel
theorem progOk_any (w : World) (hp : ProgAt w gA lA pA nm bs) (hg : PG nm bs) : Calls Try.prog 78 #[.agg #[.slice gA 4 gc,.slice lA 3 lc,.slice pA nm.length pc]] w fun e w'=>e = .returned (.bool true) ∧ Below w.heap.size w w':=by
 have HPB:=Lib.hid (pbox w gA lA pA gc lc pc nm.length);have HP:=Lib.hid (fun V (h : Below w.heap.size w V)=>hp.below h);have hsz : ∀ y : ByteArray,(y ∈ globL ∨ y ∈ lockL ∨ y ∈ procL4) → y.size ≤ 1099511627776:=fun y h=>Nat.le_trans (small_size h) (by omega);have HN1:=Lib.hid (fun V (h : Below w.heap.size w V)=>(show Calls Try.prog 94 #[.slice gA 4 gc,.int .i64 6] V fun e w'=>e = .returned (.bool true) ∧ V = w' from by
  have:=l05Names_any gA gc globL 6 V (hp.below h).g (by simp [globL]) (by omega) (fun s hs=>hsz s (.inl hs));rw [glob_ok] at this;exact this))
 have HN2:=Lib.hid (fun V (h : Below w.heap.size w V)=>(show Calls Try.prog 94 #[.slice lA 3 lc,.int .i64 6] V fun e w'=>e = .returned (.bool true) ∧ V = w' from by
  have:=l05Names_any lA lc lockL 6 V (hp.below h).l (by simp [lockL]) (by omega) (fun s hs=>hsz s (.inr (.inl hs)));rw [lock_ok] at this;exact this))
 have HNM:=Lib.hid (fun V i (hi : i < nm.length)=>(show Calls Try.prog 95 #[.string nm[i]] V fun e w'=>e = .returned (.bool true) ∧ V = w' from by
  have:=isName_s nm[i] V (hsz _ (.inr (.inr (hg.sub _ (List.getElem_mem hi)))));rw [proc_name (hg.sub _ (List.getElem_mem hi))] at this;exact this))
 have HOK:=Lib.hid (fun V i (hi : i < bs.length) (lo hi' : Nat) (v : Value) (h : StsIn V lo hi' bs[i] v) (hh : hi' ≤ V.heap.size)=>l04Ok_any nm hg.sub bs[i] (by have:=(hg.good _ (List.getElem_mem hi)).2;omega) v V (hg.good _ (List.getElem_mem hi)).1 (by omega) h hh);have hn4:=hg.n4;have HL:=Lib.hid hg.len;obtain ⟨b0,b1,b2,hbw⟩:=id HPB.out;clear hp hsz
 go_enter Try.func78, Try.ntmps78
 go_wp2_with fail
 generalize w.alloc (.cells #[.slice gA 4 gc,.slice lA 3 lc,.slice pA nm.length pc] 83) = W at HPB b0 b1 b2 hbw ⊢;refine (HN1.out _ hbw).mono ?_;rintro e w1 ⟨rfl,rfl⟩;go_wp2_with fail
 refine (HN2.out _ hbw).mono ?_;rintro e w1 ⟨rfl,rfl⟩;have z8 : ¬ (8 : Int) < (nm.length : Int):=by omega
 have z9 : ((nm.length : Nat) : Int) ≤ 8:=by omega
 go_wp2_with fail
 clear b0 b1 b2 hbw z8 z9;go_loopg [3] nm.length (fun l i wr=>∃ (j : Nat),j ≤ nm.length ∧ l = nm.length - j ∧ i = .int .i64 j ∧ PBox w w.heap.size gA lA pA gc lc pc nm.length wr)
 case atStart=>exact ⟨0,by omega,by omega,rfl,HPB.out⟩
 case round =>
  clear HPB;obtain ⟨j,hj,rfl,rfl,hbx⟩:=hrel;obtain ⟨b0,b1,b2,hbw⟩:=id hbx;by_cases hlt : j < nm.length
  ·
   have y1 : (j : Int) < (nm.length : Int):=by omega
   have y2 : (0 : Int) ≤ (j : Int):=by omega
   obtain ⟨ad,bv,m,n,rfl,q1,c0,c1,q4,q5,q6⟩:=(HP.out _ hbw).p j hlt (by rw [HL.out];exact hlt);obtain ⟨Av,cv,rfl⟩:=q6.form;have HO:=Lib.hid (HOK.out wr j (by rw [HL.out];exact hlt) m n _ q6 q5);have c1':=c1;rw [add_pos_eq _ _ 1 (by omega)] at c1';clear q6;go_wp2_with fail
   refine (HNM.out _ j hlt).mono ?_;rintro e w1 ⟨rfl,rfl⟩;go_wp2_with fail
   refine HO.out.mono ?_;rintro e w2 ⟨rfl,hb2⟩;have hbx2:=hbx.to hb2;obtain ⟨e0,e1,e2,hbw2⟩:=id hbx2;clear b0 b1 b2 hbw;go_wp2_with fail
   go_roundg (nm.length - (j + 1))
   case measure=>omega
   case rel=>exact ⟨j + 1,by omega,by omega,by go_num,hbx2⟩
  ·
   obtain rfl : j = nm.length:=by omega
   go_wp2_with fail
   go_ret
   exact ⟨rfl,hbw⟩
theorem unknownIn_any (w : World) (hp : ProgAt w gA lA pA nm bs) (hg : PG nm bs) : Calls Try.prog 81 #[.agg #[.slice gA 4 gc,.slice lA 3 lc,.slice pA nm.length pc]] w fun e w'=>∃ A c,e = .returned (.slice A 0 c) ∧ Below w.heap.size w w':=by
 have HPB:=Lib.hid (pbox w gA lA pA gc lc pc nm.length);have HP:=Lib.hid (fun V (h : Below w.heap.size w V)=>hp.below h);have HOK:=Lib.hid (fun V (h : Below w.heap.size w V)=>progOk_any (gc:=gc) (lc:=lc) (pc:=pc) V (hp.below h) hg);have HUK:=Lib.hid (fun V (h : Below w.heap.size w V) i (hi : i < bs.length)=>l07Unknown_any (gc:=gc) (lc:=lc) (pc:=pc) (gA:=gA) (lA:=lA) (pA:=pA) bs[i] (by have:=(hg.good _ (List.getElem_mem hi)).2;omega) hg);have HGD:=Lib.hid (fun i (hi : i < bs.length)=>(hg.good _ (List.getElem_mem hi)).1);have hn4:=hg.n4;have HL:=Lib.hid hg.len;clear hp
 go_enter Try.func81, Try.ntmps81
 go_wp2_with fail
 have hsz : (w.alloc (.cells #[.slice gA 4 gc,.slice lA 3 lc,.slice pA nm.length pc] 83)).heap.size = w.heap.size + 1:=by simp
 generalize w.alloc (.cells #[.slice gA 4 gc,.slice lA 3 lc,.slice pA nm.length pc] 83) = W at HPB hsz ⊢;have hx:=HPB.out.to (below_alloc0 W (.cells #[] 9));generalize W.alloc (.cells #[] 9) = W1 at hx ⊢;have HX:=Lib.hid hx;clear hx HPB hsz;go_loopg [3,4] nm.length (fun l out i wr=>∃ (j : Nat),j ≤ nm.length ∧ l = nm.length - j ∧ i = .int .i64 j ∧ out = .slice (some ⟨w.heap.size + 1,0,none⟩) 0 0 ∧ PBox w w.heap.size gA lA pA gc lc pc nm.length wr)
 case atStart=>exact ⟨0,by omega,by omega,rfl,rfl,HX.out⟩
 case round =>
  clear HX;obtain ⟨j,hj,rfl,rfl,rfl,hbx⟩:=hrel;obtain ⟨b0,b1,b2,hbw⟩:=id hbx;go_wp2_with fail
  refine (HOK.out _ hbw).mono ?_;rintro e w1 ⟨rfl,hb1⟩;have hbx1:=hbx.to hb1;clear b0 b1 b2 hbw hbx;obtain ⟨wr,rfl⟩ : ∃ wr : World,wr = w1:=⟨_,rfl⟩
  have hbx:=hbx1;obtain ⟨b0,b1,b2,hbw⟩:=id hbx;clear hbx1 hb1;by_cases hlt : j < nm.length
  ·
   have y1 : (j : Int) < (nm.length : Int):=by omega
   have y2 : (0 : Int) ≤ (j : Int):=by omega
   have hjb : j < bs.length:=by rw [HL.out];exact hlt
   obtain ⟨ad,bv,m,n,rfl,q1,c0,c1,q4,q5,q6⟩:=(HP.out _ hbw).p j hlt hjb;obtain ⟨Av,cv,rfl⟩:=q6.form;rw [add_pos_eq _ _ 1 (by omega)] at c1;have HUN:=Lib.hid (fun V (h : Below w.heap.size w V) (O : Option Addr) on oc (hst : StsIn V m n bs[j] (.slice Av bs[j].length cv) ∧ n ≤ V.heap.size)=>HUK.out V h j hjb 2 m n (.slice Av bs[j].length cv) O on oc V (HP.out V h) (HGD.out j hjb) hst.1 hst.2);have HQ6:=Lib.hid (fun V (hV : Below wr.heap.size wr V)=>(show StsIn V m n bs[j] (.slice Av bs[j].length cv) ∧ n ≤ V.heap.size from ⟨sts_below q6 hV q5,by have:=hV.size;omega⟩));clear q6;go_wp2_with fail
   refine wp_region_held_drew (S:=fun w'=>Below wr.heap.size wr w') (by kernel_rfl) ((Below.refl _ _).drew) (fun hHeld=>?_);first | (refine hand_skip (i:=0) rfl (by kernel_rfl) (by kernel_rfl) (by kernel_rfl) (fun _ _ _ h=>h) (by rfl) (by assumption) ?_) | (refine hand_run (i:=0) (v:=?_) rfl (by kernel_rfl) (by kernel_rfl) (by kernel_rfl) (fun _ _ _ h=>h) (by rfl) ?_ (by assumption) ?_;rotate_left;(intro W hW;obtain ⟨p0q,p1q,p2q,_⟩:=id (hbx.to hW);have c0q:=cell_below hW c0;have c1q:=cell_below hW c1;first | (go_simp;done) | (go_simp;with_reducible rfl)))
   (try simp only [Act.put,List.setIfInBounds_toArray,List.set_cons_zero,List.set_cons_succ])
   first | (refine hand_skip (i:=1) rfl (by kernel_rfl) (by kernel_rfl) (by kernel_rfl) (fun _ _ _ h=>h) (by rfl) (by assumption) ?_) | (refine hand_run (i:=1) (v:=?_) rfl (by kernel_rfl) (by kernel_rfl) (by kernel_rfl) (fun _ _ _ h=>h) (by rfl) ?_ (by assumption) ?_;rotate_left;(intro W hW;obtain ⟨p0q,p1q,p2q,_⟩:=id (hbx.to hW);have c0q:=cell_below hW c0;have c1q:=cell_below hW c1;first | (go_simp;done) | (go_simp;with_reducible rfl)))
   (try simp only [Act.put,List.setIfInBounds_toArray,List.set_cons_zero,List.set_cons_succ])
   first | (refine hand_skip (i:=2) rfl (by kernel_rfl) (by kernel_rfl) (by kernel_rfl) (fun _ _ _ h=>h) (by rfl) (by assumption) ?_) | (refine hand_run (i:=2) (v:=?_) rfl (by kernel_rfl) (by kernel_rfl) (by kernel_rfl) (fun _ _ _ h=>h) (by rfl) ?_ (by assumption) ?_;rotate_left;(intro W hW;obtain ⟨p0q,p1q,p2q,_⟩:=id (hbx.to hW);have c0q:=cell_below hW c0;have c1q:=cell_below hW c1;first | (go_simp;done) | (go_simp;with_reducible rfl)))
   (try simp only [Act.put,List.setIfInBounds_toArray,List.set_cons_zero,List.set_cons_succ])
   first | (refine hand_skip (i:=3) rfl (by kernel_rfl) (by kernel_rfl) (by kernel_rfl) (fun _ _ _ h=>h) (by rfl) (by assumption) ?_) | (refine hand_run (i:=3) (v:=?_) rfl (by kernel_rfl) (by kernel_rfl) (by kernel_rfl) (fun _ _ _ h=>h) (by rfl) ?_ (by assumption) ?_;rotate_left;(intro W hW;obtain ⟨p0q,p1q,p2q,_⟩:=id (hbx.to hW);have c0q:=cell_below hW c0;have c1q:=cell_below hW c1;first | (go_simp;done) | (go_simp;with_reducible rfl)))
   (try simp only [Act.put,List.setIfInBounds_toArray,List.set_cons_zero,List.set_cons_succ])
   first | (refine hand_skip (i:=4) rfl (by kernel_rfl) (by kernel_rfl) (by kernel_rfl) (fun _ _ _ h=>h) (by rfl) (by assumption) ?_) | (refine hand_run (i:=4) (v:=?_) rfl (by kernel_rfl) (by kernel_rfl) (by kernel_rfl) (fun _ _ _ h=>h) (by rfl) ?_ (by assumption) ?_;rotate_left;(intro W hW;obtain ⟨p0q,p1q,p2q,_⟩:=id (hbx.to hW);have c0q:=cell_below hW c0;have c1q:=cell_below hW c1;first | (go_simp;done) | (go_simp;with_reducible rfl)))
   (try simp only [Act.put,List.setIfInBounds_toArray,List.set_cons_zero,List.set_cons_succ])
   first | (refine hand_skip (i:=5) rfl (by kernel_rfl) (by kernel_rfl) (by kernel_rfl) (fun _ _ _ h=>h) (by rfl) (by assumption) ?_) | (refine hand_run (i:=5) (v:=?_) rfl (by kernel_rfl) (by kernel_rfl) (by kernel_rfl) (fun _ _ _ h=>h) (by rfl) ?_ (by assumption) ?_;rotate_left;(intro W hW;obtain ⟨p0q,p1q,p2q,_⟩:=id (hbx.to hW);have c0q:=cell_below hW c0;have c1q:=cell_below hW c1;first | (go_simp;done) | (go_simp;with_reducible rfl)))
   (try simp only [Act.put,List.setIfInBounds_toArray,List.set_cons_zero,List.set_cons_succ])
   first | (refine hand_skip (i:=6) rfl (by kernel_rfl) (by kernel_rfl) (by kernel_rfl) (fun _ _ _ h=>h) (by rfl) (by assumption) ?_) | (refine hand_run (i:=6) (v:=?_) rfl (by kernel_rfl) (by kernel_rfl) (by kernel_rfl) (fun _ _ _ h=>h) (by rfl) ?_ (by assumption) ?_;rotate_left;(intro W hW;obtain ⟨p0q,p1q,p2q,_⟩:=id (hbx.to hW);have c0q:=cell_below hW c0;have c1q:=cell_below hW c1;first | (go_simp;done) | (go_simp;with_reducible rfl)))
   (try simp only [Act.put,List.setIfInBounds_toArray,List.set_cons_zero,List.set_cons_succ])
   first | (refine hand_skip (i:=7) rfl (by kernel_rfl) (by kernel_rfl) (by kernel_rfl) (fun _ _ _ h=>h) (by rfl) (by assumption) ?_) | (refine hand_run (i:=7) (v:=?_) rfl (by kernel_rfl) (by kernel_rfl) (by kernel_rfl) (fun _ _ _ h=>h) (by rfl) ?_ (by assumption) ?_;rotate_left;(intro W hW;obtain ⟨p0q,p1q,p2q,_⟩:=id (hbx.to hW);have c0q:=cell_below hW c0;have c1q:=cell_below hW c1;first | (go_simp;done) | (go_simp;with_reducible rfl)))
   (try simp only [Act.put,List.setIfInBounds_toArray,List.set_cons_zero,List.set_cons_succ])
   refine hand_one (i:=8) rfl (by kernel_rfl) (fun K hK=>?_);refine q_yes (by kernel_rfl) ?_;go_simp
   refine (HUN.out _ (below_trans' hbw hHeld) _ _ _ (HQ6.out _ hHeld)).mono ?_;rintro e w4 ⟨rfl,hb4⟩;refine hK.out _ _ (below_trans' hHeld hb4) (fun hHeld=>?_);clear hK K
   (try simp only [Act.put,List.setIfInBounds_toArray,List.set_cons_zero,List.set_cons_succ])
   first | (refine hand_skip (i:=9) rfl (by kernel_rfl) (by kernel_rfl) (by kernel_rfl) (fun _ _ _ h=>h) (by rfl) (by assumption) ?_) | (refine hand_run (i:=9) (v:=?_) rfl (by kernel_rfl) (by kernel_rfl) (by kernel_rfl) (fun _ _ _ h=>h) (by rfl) ?_ (by assumption) ?_;rotate_left;(intro W hW;obtain ⟨p0q,p1q,p2q,_⟩:=id (hbx.to hW);have c0q:=cell_below hW c0;have c1q:=cell_below hW c1;first | (go_simp;done) | (go_simp;with_reducible rfl)))
   (try simp only [Act.put,List.setIfInBounds_toArray,List.set_cons_zero,List.set_cons_succ])
   refine wpAnyH_done (by kernel_rfl) ?_ _;have hbx9:=hbx.to hHeld;clear hHeld;go_wp2_with fail
   go_roundg (nm.length - (j + 1))
   case measure=>omega
   case rel=>exact ⟨j + 1,by omega,by omega,by go_num,rfl,hbx9⟩
  ·
   obtain rfl : j = nm.length:=by omega
   go_wp2_with fail
   go_ret
   exact ⟨_,_,rfl,hbw⟩
theorem progFault_any (w : World) (hp : ProgAt w gA lA pA nm bs) (hg : PG nm bs) (hgc : 4 ≤ gc) (hlc : 3 ≤ lc) : Calls Try.prog 59 #[.agg #[.slice gA 4 gc,.slice lA 3 lc,.slice pA nm.length pc]] w fun e w'=>e = .returned (.int .i64 0) ∧ Below w.heap.size w w':=by
 have HPB:=Lib.hid (pbox w gA lA pA gc lc pc nm.length);have HP:=Lib.hid (fun V (h : Below w.heap.size w V)=>hp.below h);have HOK:=Lib.hid (fun V (h : Below w.heap.size w V)=>progOk_any (gc:=gc) (lc:=lc) (pc:=pc) V (hp.below h) hg);have HUN:=Lib.hid (fun V (h : Below w.heap.size w V)=>unknownIn_any (gc:=gc) (lc:=lc) (pc:=pc) V (hp.below h) hg);have HPR:=Lib.hid (fun V (h : Below w.heap.size w V)=>l07Procs_any (gc:=gc) (lc:=lc) (pc:=pc) V (hp.below h) hg);have HPA:=Lib.hid (fun V (h : Below w.heap.size w V)=>procAt_any (gc:=gc) (lc:=lc) (pc:=pc) V (hp.below h) hg mainS);have HMN:=Lib.hid (show ∃ m : Nat,placeOf nm mainS = (m : Int) from ⟨_,by rw [placeOf,if_pos hg.main]⟩);have hn4:=hg.n4;have HTW:=Lib.hid hg.once;have HT1:=Lib.hid (fun V (h : Below w.heap.size w V)=>(show Calls Try.prog 79 #[.slice gA 4 gc] V fun e w'=>e = .returned (.bool false) ∧ Drew V w' from by
  have:=l07Twice_any gA gc globL V (hp.below h).g (by simp [globL]) hgc;rw [glob_once] at this;exact this))
 have HT2:=Lib.hid (fun V (h : Below w.heap.size w V)=>(show Calls Try.prog 79 #[.slice lA 3 lc] V fun e w'=>e = .returned (.bool false) ∧ Drew V w' from by
  have:=l07Twice_any lA lc lockL V (hp.below h).l (by simp [lockL]) hlc;rw [lock_once] at this;exact this))
 obtain ⟨b0,b1,b2,hbw⟩:=id HPB.out;clear hp
 go_enter Try.func59, Try.ntmps59
 go_wp2_with fail
 have hbx0:=HPB.out;clear HPB;generalize w.alloc (.cells #[.slice gA 4 gc,.slice lA 3 lc,.slice pA nm.length pc] 83) = W at hbx0 b0 b1 b2 hbw ⊢;refine (HOK.out _ hbw).mono ?_;rintro e w1 ⟨rfl,hb1⟩;have hbx1:=hbx0.to hb1;clear b0 b1 b2 hbw hbx0 hb1;obtain ⟨b0,b1,b2,hbw⟩:=id hbx1;go_wp2_with fail
 refine (HT1.out _ hbw).mono ?_;rintro e w2 ⟨rfl,hd2⟩;have hb2:=hd2.below w1.heap.size;clear hd2;have hbx2:=hbx1.to hb2;clear b0 b1 b2 hbw hbx1 hb2;obtain ⟨b0,b1,b2,hbw⟩:=id hbx2;go_wp2_with fail
 refine (HT2.out _ hbw).mono ?_;rintro e w3 ⟨rfl,hd3⟩;have hb3:=hd3.below w2.heap.size;clear hd3;have hbx3:=hbx2.to hb3;clear b0 b1 b2 hbw hbx2 hb3;obtain ⟨b0,b1,b2,hbw⟩:=id hbx3;go_wp2_with fail
 refine (HPR.out _ hbw).mono ?_;rintro e w4 ⟨An,cn,rfl,hon,hb4⟩;have htw:=l07Twice_any An cn nm w4 (own_rd hon) (by omega) (own_cap hon);rw [HTW.out] at htw;have HTT:=Lib.hid htw;clear htw hon;have hbx4:=hbx3.to hb4;clear b0 b1 b2 hbw hbx3 hb4;obtain ⟨b0,b1,b2,hbw⟩:=id hbx4;go_wp2_with fail
 refine HTT.out.mono ?_;rintro e w5 ⟨rfl,hd5⟩;have hb5:=hd5.below w4.heap.size;clear hd5;have hbx5:=hbx4.to hb5;clear b0 b1 b2 hbw hbx4 hb5;obtain ⟨b0,b1,b2,hbw⟩:=id hbx5;go_wp2_with fail
 refine (HUN.out _ hbw).mono ?_;rintro e w6 ⟨Au,cu,rfl,hb6⟩;have hbx6:=hbx5.to hb6;clear b0 b1 b2 hbw hbx5 hb6;obtain ⟨b0,b1,b2,hbw⟩:=id hbx6;go_wp2_with fail
 refine (HPA.out _ hbw).mono ?_;rintro e w7 ⟨rfl,hb7⟩;obtain ⟨mm,hmm⟩:=HMN.out;rw [hmm];have z7 : ¬ ((mm : Nat) : Int) < 0:=by omega
 clear hmm;have hbx7:=hbx6.to hb7;clear b0 b1 b2 hbw hbx6 hb7;go_wp2_with fail
 go_ret
 exact ⟨rfl,hbx7.2.2.2⟩
end
end Go.Proofs.Ytkgoajnnkimkaaa
