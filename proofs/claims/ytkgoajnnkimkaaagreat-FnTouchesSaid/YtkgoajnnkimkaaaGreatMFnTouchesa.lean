/- Contracts of RootsOf, UsedIn, StartsOf, of the program and of the reference; of l14Used and l14Starts. -/
import Derived.Test.YtkgoajnnkimkaaaGreatMFnTouches
import Derived.Test.YtkgoajnnkimkaaaGreatB2
import Derived.Test.YtkgoajnnkimkaaaGreatC1
import Derived.Laws.BytesArg
import Derived.Test.YtkgoajnnkimkaaaGreatQ2
import Derived.Test.YtkgoajnnkimkaaaGreatH4
import Derived.Carry
import Derived.ChangeSame
import Derived.ChangeSlices
import Derived.Deep.Strs
import Derived.Lib.SmallJoins
set_option linter.unusedSimpArgs false
set_option linter.unusedVariables false
set_option maxRecDepth 100000
set_option maxHeartbeats 16000000
namespace Go.Proofs.YtkgoajnnkimkaaaGreat
open Go.ChangeShapes Go.WideShapes Go.ChangeAt Go.RowKit
noncomputable def codeL (k : Cd) (F : List Nat) : List Nat:=if codeOkI k = true then F else []
theorem codeL_no {k : Cd} {F : List Nat} (h : codeOkI k = false) : codeL k F = []:=by rw [codeL,if_neg (by rw [h];simp)]
theorem codeL_yes {k : Cd} {F : List Nat} (h : codeOkI k = true) : codeL k F = F:=by rw [codeL,if_pos h]
def UsedTo (k : Cd) (r q : Nat) : Prop:=∃ s,s < r ∧ RootP k s ∧ FromP k s q
theorem used_zero (k : Cd) (n : Nat) : markL n (UsedTo k 0) = List.replicate n false:=by
 refine (eq_markL (by simp) fun b _=>?_).symm;rw [mkd_replicate];simp [UsedTo]
theorem used_all {k : Cd} (hr : Right k) (n : Nat) : markL n (UsedTo k k.procs.length) = markL n (UsedP k) :=
 markL_congr fun i _=>⟨fun ⟨s,_,h⟩=>⟨s,h⟩,fun ⟨s,h1,h2⟩=>⟨s,root_lt hr h1,h1,h2⟩⟩
theorem used_skip {k : Cd} {r : Nat} (h : ¬ RootP k r) (n : Nat) : markL n (UsedTo k (r + 1)) = markL n (UsedTo k r) :=
 markL_congr fun i _=>⟨fun ⟨s,h1,h2,h3⟩=>by
  rcases Nat.lt_or_ge s r with h4 | h4
  · exact ⟨s,h4,h2,h3⟩
  ·
   have e : s = r:=by omega
   subst e;exact absurd h2 h,fun ⟨s,h1,h2⟩=>⟨s,by omega,h2⟩⟩
def UsedMid (k : Cd) (r p q : Nat) : Prop:=UsedTo k r q ∨ (q < p ∧ FromP k r q)
theorem mid_zero (k : Cd) (r n : Nat) : markL n (UsedMid k r 0) = markL n (UsedTo k r) :=
 markL_congr fun i _=>⟨fun h=>h.resolve_right fun h=>by omega,.inl⟩
theorem mid_all {k : Cd} {r : Nat} (h : RootP k r) (n : Nat) : markL n (UsedMid k r n) = markL n (UsedTo k (r + 1)) :=
 markL_congr fun i hi=>⟨fun h1=>by
  rcases h1 with ⟨s,h1,h2⟩ | ⟨_,h1⟩
  · exact ⟨s,by omega,h2⟩
  · exact ⟨r,by omega,h,h1⟩,fun ⟨s,h1,h2,h3⟩=>by
  rcases Nat.lt_or_ge s r with h4 | h4
  · exact .inl ⟨s,h4,h2,h3⟩
  ·
   have e : s = r:=by omega
   subst e;exact .inr ⟨hi,h3⟩⟩
theorem mid_step {k : Cd} {r p n : Nat} (hp : p < n) {b : Bool} (hb : b = true ↔ UsedMid k r p p ∨ FromP k r p) : (markL n (UsedMid k r p)).set p b = markL n (UsedMid k r (p + 1)):=by
 refine eq_markL (by rw [List.length_set,markL_len]) fun q hq=>?_;rw [mkd_set (by rw [markL_len];exact hp)];split
 · rename_i e;subst e;rw [hb];exact ⟨fun h=>h.elim (fun h=>h.elim .inl fun h=>absurd h.1 (by omega)) fun h=>.inr ⟨by omega,h⟩,fun h=>h.elim (fun h=>.inl (.inl h)) fun h=>.inr h.2⟩
 · rename_i e;rw [mkd_markL_true];exact ⟨fun h=>h.2.elim .inl fun h=>.inr ⟨by omega,h.2⟩,fun h=>⟨hq,h.elim .inl fun h=>.inr ⟨by omega,h.2⟩⟩⟩
theorem mid_self {k : Cd} {r p n : Nat} (hp : p < n) : mkd (markL n (UsedMid k r p)) p = true ↔ UsedMid k r p p:=by
 rw [mkd_markL_true];exact ⟨fun h=>h.2,fun h=>⟨hp,h⟩⟩
theorem l14Used_any {B : Nat} (v : CV) (k : Cd) (w : World) (hr : Right k) (hk : CodeAt w B v k) :
  Calls Tryz.prog 110 #[.agg #[.slice v.gA k.globals.length v.gc, .slice v.lA k.locks.length v.lc, .slice v.pA k.procs.length v.pc, .slice v.eA k.entry.length v.ec, .slice v.iA k.ins.length v.ic]] w (NewMarks w (markL k.procs.length (UsedP k))):=by
 have hkf:=hk.full;have hbx:=codeBox w v k;have hpl:=hr.procs;have HRT:=Lib.hid (fun W (h : CodeAt W w.heap.size v k)=>l14Roots_any v k W hr h);have HFR:=Lib.hid (fun x (hx : x < k.procs.length) W (h : CodeAt W w.heap.size v k)=>l10From_any v k x W hr h hx);have HALL:=Lib.hid (used_all hr k.procs.length);clear hk hr
 go_enter Tryz.func110, Tryz.ntmps110
 go_wp2_with fail
 generalize w.alloc (.cells #[.slice v.gA k.globals.length v.gc, .slice v.lA k.locks.length v.lc, .slice v.pA k.procs.length v.pc, .slice v.eA k.entry.length v.ec, .slice v.iA k.ins.length v.ic] 28) = W at hbx ⊢;refine (HRT.out _ (hkf.below hbx.1)).mono ?_;rintro e w1 ⟨Ar,cr,rfl,hor,hb1⟩;have hbx1:=hbx.to hb1;have hrr:=own_rd hor;rw [markL_len];obtain ⟨q1,q2,c0,c1,c2,c3,c4⟩:=id hbx1;clear hbx hb1 hor;go_wp2_with (at_make;refine make_bools _ rfl _ _ rfl k.procs.length rfl rfl (by omega) ?_;intro w2 hown hb2)
 clear q1 q2 c0 c1 c2 c3 c4;rw [← used_zero k] at hown;go_loopg [5] k.procs.length (fun l i wr=>∃ r : Nat,r ≤ k.procs.length ∧ l = k.procs.length - r ∧ i = .int .i64 r ∧ Below w1.heap.size w1 wr ∧ wr.ownsRow w1.heap.size 4 1 (.slice (some ⟨w1.heap.size,0,none⟩) k.procs.length k.procs.length) k.procs.length ((markL k.procs.length (UsedTo k r)).map bv))
 case atStart=>exact ⟨0,by omega,by omega,rfl,hb2,hown⟩
 case round =>
  clear hown hb2;obtain ⟨r,hrl,rfl,rfl,hb,hown⟩:=hrel;have hbxr:=hbx1.to hb;obtain ⟨q1,q2,c0,c1,c2,c3,c4⟩:=id hbxr;by_cases hlt : r < k.procs.length
  ·
   obtain ⟨adr,rfl,hbr,hcr⟩:=(hrr.below hb).mark (j:=r) (by rw [markL_len];exact hlt);have y1 : (0 : Int) ≤ (r : Int):=by omega
   have y2 : (r : Int) < (k.procs.length : Int):=by omega
   by_cases hrt : RootP k r
   ·
    rw [mkd_markL_pos hlt hrt] at hcr;have HMA:=Lib.hid (mid_all hrt k.procs.length);rw [← mid_zero k r] at hown;go_wp2_with fail
    refine (HFR.out r hlt _ (hkf.below hbxr.1)).mono ?_;rintro e w3 ⟨Af,cf,rfl,hof,hb3⟩;rw [markL_len];have hbx3:=hbxr.to hb3;have hown3:=own_below hown hb3;have hb13:=below_trans' hb hb3;have hbs:=hb.size;have HW1:=Lib.hid (own_lt hown).2;clear c0 c1 c2 c3 c4 q1 q2 hcr hown;rw [markL_len] at hof;go_wp2_with fail
    obtain ⟨wo,rfl⟩ : ∃ wo : World,wo = wr:=⟨_,rfl⟩
    go_loopg [7] k.procs.length (fun l i wr=>∃ p : Nat,p ≤ k.procs.length ∧ l = k.procs.length - p ∧ i = .int .i64 p ∧ Below w1.heap.size w1 wr ∧ wr.ownsRow w1.heap.size 4 1 (.slice (some ⟨w1.heap.size,0,none⟩) k.procs.length k.procs.length) k.procs.length ((markL k.procs.length (UsedMid k r p)).map bv) ∧ wr.ownsRow wo.heap.size 4 1 (.slice Af k.procs.length cf) k.procs.length ((markL k.procs.length (FromP k r)).map bv))
    case atStart=>exact ⟨0,by omega,by omega,rfl,hb13,hown3,hof⟩
    case round =>
     clear hown3 hb13 hof hbx3;obtain ⟨p,hp,rfl,rfl,hb,hown,hof⟩:=hrel;by_cases hltp : p < k.procs.length
     ·
      obtain ⟨adf,rfl,hbf,hcf⟩:=(own_rd hof).mark (j:=p) (by rw [markL_len];exact hltp);have hcm:=own_at hown (j:=p) hltp (u:=.bool (mkd (markL k.procs.length (UsedMid k r p)) p)) (by rw [List.getElem?_map,List.getElem?_eq_getElem (by rw [markL_len];exact hltp),mkd_get (by rw [markL_len];exact hltp)];rfl);have fz:=hown.frozenAt p;have z1 : (0 : Int) ≤ (p : Int):=by omega
      have z2 : (p : Int) < (k.procs.length : Int):=by omega
      have hgf : w1.heap.size < wo.heap.size:=by
       have h1:=(own_lt hown).2;have h2:=HW1.out;omega
      cases hm1 : mkd (markL k.procs.length (UsedMid k r p)) p
      ·
       rw [hm1] at hcm;cases hm2 : mkd (markL k.procs.length (FromP k r)) p
       ·
        rw [hm2] at hcf;have HST:=Lib.hid (mid_step (k:=k) (r:=r) hltp (b:=false) ⟨fun h=>by simp at h,fun h=>by
         rcases h with h | h
         · rw [(mid_self hltp).2 h] at hm1;exact hm1.symm
         · rw [mkd_markL_pos hltp h] at hm2;exact hm2.symm⟩)
        obtain ⟨s1,s2⟩:=hown.stored p (bv false);rw [bv_set,HST.out] at s1;have hof2:=hof.kept s2 (.inr (fun h1=>by
         have:=(hof.lt w1.heap.size h1).1;omega))
        have HB3:=Lib.hid (show Below w1.heap.size w1 (wr.setCell ⟨w1.heap.size,p,none⟩ (bv false)) from hb.setCell (Nat.le_refl _) _);have HS1:=Lib.hid s1;have HO2:=Lib.hid hof2;clear hm1 hm2 s1 s2 hof2;go_wp2_with fail
        go_roundg (k.procs.length - (p + 1))
        case measure=>omega
        case rel=>exact ⟨p + 1,by omega,rfl,by go_num,HB3.out,HS1.out,HO2.out⟩
       ·
        rw [hm2] at hcf;have HST:=Lib.hid (mid_step (k:=k) (r:=r) hltp (b:=true) ⟨fun _=>.inr (mkd_markL_true.1 hm2).2,fun _=>rfl⟩);obtain ⟨s1,s2⟩:=hown.stored p (bv true);rw [bv_set,HST.out] at s1;have hof2:=hof.kept s2 (.inr (fun h1=>by
         have:=(hof.lt w1.heap.size h1).1;omega))
        have HB3:=Lib.hid (show Below w1.heap.size w1 (wr.setCell ⟨w1.heap.size,p,none⟩ (bv true)) from hb.setCell (Nat.le_refl _) _);have HS1:=Lib.hid s1;have HO2:=Lib.hid hof2;clear hm1 hm2 s1 s2 hof2;go_wp2_with fail
        go_roundg (k.procs.length - (p + 1))
        case measure=>omega
        case rel=>exact ⟨p + 1,by omega,rfl,by go_num,HB3.out,HS1.out,HO2.out⟩
      ·
       rw [hm1] at hcm;have HST:=Lib.hid (mid_step (k:=k) (r:=r) hltp (b:=true) ⟨fun _=>.inl ((mid_self hltp).1 hm1),fun _=>rfl⟩);obtain ⟨s1,s2⟩:=hown.stored p (bv true);rw [bv_set,HST.out] at s1;have hof2:=hof.kept s2 (.inr (fun h1=>by
        have:=(hof.lt w1.heap.size h1).1;omega))
       have HB3:=Lib.hid (show Below w1.heap.size w1 (wr.setCell ⟨w1.heap.size,p,none⟩ (bv true)) from hb.setCell (Nat.le_refl _) _);have HS1:=Lib.hid s1;have HO2:=Lib.hid hof2;clear hm1 s1 s2 hof2 hcf;go_wp2_with fail
       go_roundg (k.procs.length - (p + 1))
       case measure=>omega
       case rel=>exact ⟨p + 1,by omega,rfl,by go_num,HB3.out,HS1.out,HO2.out⟩
     ·
      obtain rfl : p = k.procs.length:=by omega
      rw [HMA.out] at hown;go_wp2_with fail
      go_roundg (k.procs.length - (r + 1))
      case measure=>omega
      case rel=>exact ⟨r + 1,by omega,rfl,by go_num,hb,hown⟩
   ·
    rw [mkd_markL_neg hrt] at hcr;rw [← used_skip hrt] at hown;go_wp2_with fail
    go_roundg (k.procs.length - (r + 1))
    case measure=>omega
    case rel=>exact ⟨r + 1,by omega,rfl,by go_num,hb,hown⟩
  ·
   obtain rfl : r = k.procs.length:=by omega
   rw [HALL.out] at hown;go_wp2_with fail
   go_ret
   exact newMarks_of (own_mono hown hbx1.1.size) (below_trans' hbx1.1 hb)
end Go.Proofs.YtkgoajnnkimkaaaGreat
namespace Go.Proofs.YtkgoajnnkimkaaaGreat
open Go.ChangeShapes Go.WideShapes Go.ChangeAt Go.RowKit
theorem listN_nil {P : Nat → Prop} {n : Nat} (h : ∀ i,P i → n ≤ i) : listN n P = []:=by
 refine List.eq_nil_iff_forall_not_mem.2 fun i hi=>?_;obtain ⟨h1,h2⟩:=mem_listN.1 hi;have:=h i h2;omega
theorem listN_end {P : Nat → Prop} {m n : Nat} (h : ∀ i,P i → i < m) (hm : m ≤ n) : listN n P = listN m P:=by
 induction n with
 | zero=>rw [show m = 0 from by omega]
 | succ n ih =>
  rcases Nat.lt_or_ge n m with h1 | h1
  · rw [show m = n + 1 from by omega]
  · rw [listN_skip fun hp=>by have:=h n hp;omega,ih h1]
structure FillE (k : Cd) (j : Nat) (xs : List Nat) : Prop where
 len : xs.length = k.procs.length
 done : ∀ q,q < j → gt xs q = gt (ent0 k k.procs.length) q
 rest : ∀ q,j ≤ q → gt xs q = 0
theorem fillE0 (k : Cd) : FillE k 0 (List.replicate k.procs.length 0):=by
 refine ⟨by simp,fun q h=>by omega,fun q _=>?_⟩;rcases Nat.lt_or_ge q k.procs.length with h | h
 · rw [gt_replicate h]
 · rw [gt_none (by simpa using h)]
theorem FillE.root {k : Cd} {j : Nat} {xs : List Nat} (h : FillE k j xs) (hj : j < k.procs.length) (hr : RootP k j) : FillE k (j + 1) xs:=by
 refine ⟨h.len,fun q hq=>?_,fun q hq=>h.rest q (by omega)⟩;rcases Nat.lt_or_ge q j with h1 | h1
 · exact h.done q h1
 ·
  obtain rfl : q = j:=by omega
  rw [h.rest q (Nat.le_refl _),ent0_get hj,if_pos hr]
theorem FillE.other {k : Cd} {j : Nat} {xs : List Nat} (h : FillE k j xs) (hj : j < k.procs.length) (hr : ¬ RootP k j) : FillE k (j + 1) (xs.set j 63):=by
 refine ⟨by simp [h.len],fun q hq=>?_,fun q hq=>?_⟩
 ·
  rw [gt_set (by rw [h.len];exact hj)];split
  · rename_i e;subst e;rw [ent0_get hj,if_neg hr]
  · exact h.done q (by omega)
 · rw [gt_set (by rw [h.len];exact hj),if_neg (by omega)];exact h.rest q (by omega)
theorem FillE.full {k : Cd} {xs : List Nat} (h : FillE k k.procs.length xs) : xs = ent0 k k.procs.length :=
 gt_ext (by rw [h.len,ent0_len]) fun q hq=>h.done q (by rw [← h.len];exact hq)
theorem entries_any {B B' : Nat} (g : Nat) (v : CV) (k : Cd) (A : Option Addr) (c : Nat) (es : List (Int × Int)) (w : World) (hr : Right k) (hW : WAt w B g v k) (he : Rd w B' A (effCells es)) (hes : ∀ e ∈ es, effB e = true) (hel : es.length = k.procs.length) :
  Calls Tryz.prog 122 #[.pointer (some ⟨g,0,none⟩),.slice A k.procs.length c] w fun e w'=>NewNats w (entN k es) e w' ∧ EntS k es (entN k es):=by
 have hWf:=hW.full;have hkf:=hWf.code;have hef:=he.full;have hins:=hr.ins;have hpl:=hr.procs;have h2p : 2 ^ k.procs.length ≤ 2 ^ 8:=Nat.pow_le_pow_right (by omega) hpl;have HR:=Lib.hid hr;have HKT:=Lib.hid (fun W (hb : Below w.heap.size w W)=>hWf.kat.to hb);have HKC:=Lib.hid (fun W (hb : Below w.heap.size w W)=>hkf.below hb);have HW9:=Lib.hid (fun W (hb : Below w.heap.size w W)=>(hWf.below hb).roots);have HW10:=Lib.hid (fun W (hb : Below w.heap.size w W)=>(hWf.below hb).used);have HLV:=Lib.hid (fun p (hp : p < k.procs.length) W (hb : Below w.heap.size w W)=>liveOf_any g v k p W hr (hkf.below hb) (hWf.kat.to hb) (hWf.live.below hb (Nat.le_refl _)) hp);have HFL:=Lib.hid (fun (p held : Nat) (hp : p < k.procs.length) (hh : held < 64) W (hb : Below w.heap.size w W)=>(show Calls Tryz.prog 91 #[.pointer (some ⟨g,0,none⟩),.slice A k.procs.length c,.int .i64 p,.int .i64 held] W fun e w'=>∃ Af cf,e = .returned (.slice Af k.ins.length cf) ∧ w'.ownsRow W.heap.size 3 1 (.slice Af k.ins.length cf) k.ins.length (nv (flowN k es p held)) ∧ Below W.heap.size W w' from by
  have h:=flow_any g v k A c es p held W hr (hWf.below hb) (hef.below hb) hes hel hp hh;rw [hel] at h;refine h.mono ?_;rintro e w' ⟨Af,cf,rfl,ho,hb'⟩;rw [flowN_len hr hp] at ho ⊢;exact ⟨Af,cf,rfl,ho,hb'⟩))
 have HFN:=Lib.hid (fun (p held : Nat) (hp : p < k.procs.length)=>(⟨flowN_len hr hp,flowN_lt hr hp⟩ : (flowN k es p held).length = k.ins.length ∧ ∀ i,gt (flowN k es p held) i < 64));have HHB:=Lib.hid (fun j (hj : j < k.procs.length) W=>hasBit_any (rootsN k) j W (by have:=two60 hr (setN_lt k.procs.length (RootP k));unfold rootsN;omega) (by omega));have HRB:=Lib.hid (show ∀ j,j < k.procs.length → ((rootsN k).testBit j = true ↔ RootP k j) from fun j hj=>by
  unfold rootsN;rw [testBit_setN_true];exact ⟨fun h=>h.2,fun h=>⟨hj,h⟩⟩)
 have HBB:=Lib.hid (fun W=>(show Calls Tryz.prog 102 #[.int .i64 (usedS k : Nat)] W (NewNats W (listN k.procs.length (UsedP k))) from by
  have HB:=bitsOf_nats (usedS k) W (two60 hr (setN_lt _ _));rw [show bitsTo (usedS k) 62 = listN k.procs.length (UsedP k) from bitsTo_setN (by omega)] at HB;exact HB))
 have HUS:=Lib.hid (show ∀ p ∈ listN k.procs.length (UsedP k),p < k.procs.length ∧ UsedP k p from fun p h=>mem_listN.1 h);have hul:=listN_len k.procs.length (UsedP k);have HE0:=Lib.hid (entS0 (es:=es) hr);have HSTOP:=Lib.hid (fun bs (h : EntS k es bs) hf=>h.stop hr (fun p hp=>used_lt hr hp) hf);have h9:=hWf.roots;obtain ⟨c0,c1,c2,c3,c4⟩:=hWf.kat;clear hr hW he hes hkf hef hWf hel;generalize rootsN k = rn at *;generalize usedS k = un at *;generalize listN k.procs.length (UsedP k) = us at *
 go_enter Tryz.func122, Tryz.ntmps122
 go_wp2_with (at_make;refine make_ints _ rfl _ _ rfl k.procs.length rfl rfl (by omega) ?_;intro w1 hown hb1)
 rw [zeros_nv] at hown;clear c0 c1 c2 c3 c4 h9;go_loopg [23] k.procs.length (fun l i wr=>∃ (j : Nat) (xs : List Nat),j ≤ k.procs.length ∧ l = k.procs.length - j ∧ i = .int .i64 j ∧ wr.ownsRow w.heap.size 3 1 (.slice (some ⟨w.heap.size,0,none⟩) k.procs.length k.procs.length) k.procs.length (nv xs) ∧ FillE k j xs ∧ Below w.heap.size w wr)
 case atStart=>exact ⟨0,_,by omega,by omega,rfl,hown,fillE0 k,hb1⟩
 case round =>
  clear hown hb1;obtain ⟨j,xs,hj,rfl,rfl,ho,hfl,hb⟩:=hrel;have HFI:=Lib.hid hfl;clear hfl;by_cases hlt : j < k.procs.length
  ·
   have h9:=HW9.out _ hb;obtain ⟨u,hu⟩:=own_has ho (j:=j) (by omega);have fz:=ho.frozenAt j;have z1 : (0 : Int) ≤ (j : Int):=by omega
   have z2 : (j : Int) < (k.procs.length : Int):=by omega
   have HH:=HHB.out j hlt wr;by_cases hrt : RootP k j
   ·
    rw [(HRB.out j hlt).2 hrt] at HH;have HH:=Lib.hid HH;have HF2:=Lib.hid (HFI.out.root hlt hrt);clear hrt;go_wp2_with fail
    refine HH.out.mono ?_;rintro e w2 ⟨rfl,rfl⟩;go_wp2_with fail
    go_roundg (k.procs.length - (j + 1))
    case measure=>omega
    case rel=>exact ⟨j + 1,xs,by omega,rfl,by go_num,ho,HF2.out,hb⟩
   ·
    rw [show rn.testBit j = false from by
     cases e : rn.testBit j
     · rfl
     · exact absurd ((HRB.out j hlt).1 e) hrt] at HH
    have HH:=Lib.hid HH;have HF2:=Lib.hid (HFI.out.other hlt hrt);clear hrt;go_wp2_with fail
    refine HH.out.mono ?_;rintro e w2 ⟨rfl,rfl⟩;go_wp2_with fail
    obtain ⟨s1,s2⟩:=ho.stored j (.int .i64 ((63 : Nat) : Int));rw [nv_set] at s1;go_roundg (k.procs.length - (j + 1))
    case measure=>omega
    case rel=>exact ⟨j + 1,xs.set j 63,by omega,rfl,by go_num,s1,HF2.out,hb.grown s2 hb.size (fun q hq=>by cases hq;exact Nat.le_refl _)⟩
  ·
   obtain rfl : j = k.procs.length:=by omega
   have hx:=HFI.out.full;subst hx;clear HFI;go_wp2_with fail
   go_loopg [7] (2 * (ent0 k k.procs.length).sum + 1) (fun l ag wr=>∃ (bs : List Nat) (new : Bool),ag = .bool new ∧ l = 2 * bs.sum + (if new then 1 else 0) ∧ wr.ownsRow w.heap.size 3 1 (.slice (some ⟨w.heap.size,0,none⟩) k.procs.length k.procs.length) k.procs.length (nv bs) ∧ EntS k es bs ∧ (new = false → ∀ d ∈ livesL k us,opN k d.2 = 4 → Sub (gt bs (argN k d.2)) (gt (flowN k es d.1 (gt bs d.1)) d.2)) ∧ Below w.heap.size w wr)
   case atStart=>exact ⟨_,true,rfl,rfl,ho,HE0.out,by simp,hb⟩
   case round =>
    clear ho hb HE0;obtain ⟨bs,new,rfl,rfl,ho,hS,hfx,hb⟩:=hrel;have HFX:=Lib.hid hfx;have HS:=Lib.hid hS;clear hfx hS;cases new
    ·
     have hfin:=HSTOP.out bs HS.out (HFX.out rfl);have HFI:=Lib.hid (show NewNats w (entN k es) (.returned (.slice (some ⟨w.heap.size,0,none⟩) k.procs.length k.procs.length)) wr ∧ EntS k es (entN k es) from by
      rw [← hfin];exact ⟨⟨some ⟨w.heap.size,0,none⟩,k.procs.length,by rw [HS.out.len],by rw [HS.out.len];exact ho,hb⟩,HS.out⟩)
     clear hfin;go_wp2_with fail
     go_ret
     exact HFI.out
    ·
     have h10:=HW10.out _ hb;clear HFX;go_wp2_with fail
     refine (HBB.out _).mono ?_;rintro e w2 ⟨Au,cu,rfl,hou,hb2⟩;have hX2:=(own_lt ho).2;have ho2:=own_below ho hb2;have hb02:=below_trans' hb hb2;have HOU:=Lib.hid (fun V (h : Tch w.heap.size w.heap.size w.heap.size w2 V)=>own_rd (h.own hou hX2 hX2 hX2));have HBT:=Lib.hid (fun V (h : Tch w.heap.size w.heap.size w.heap.size w2 V)=>hb02.trans (h.below hb02.size (Nat.le_refl _) (Nat.le_refl _) (Nat.le_refl _)));clear hb2 hou hb02 ho hb h10;go_wp2_with fail
     obtain ⟨wo,rfl⟩ : ∃ wo : World,wo = wr:=⟨_,rfl⟩
     go_loopg [7,44] us.length (fun l ag i wr=>∃ (j : Nat) (cs : List Nat) (nw : Bool),j ≤ us.length ∧ l = us.length - j ∧ i = .int .i64 j ∧ ag = .bool nw ∧ wr.ownsRow w.heap.size 3 1 (.slice (some ⟨w.heap.size,0,none⟩) k.procs.length k.procs.length) k.procs.length (nv cs) ∧ EntS k es cs ∧ EnR k es bs (livesL k (us.take j)) nw cs ∧ Tch w.heap.size w.heap.size w.heap.size w2 wr)
     case atStart=>exact ⟨0,bs,false,by omega,by omega,rfl,rfl,ho2,HS.out,EnR.refl,Tch.refl _ _ _ _⟩
     case round =>
      clear ho2 HS;obtain ⟨j,cs,nw,hj,rfl,rfl,rfl,ho,hS,hP,hT⟩:=hrel;have HS:=Lib.hid hS;have HP:=Lib.hid hP;clear hS hP;have hb:=HBT.out _ hT;by_cases hlt : j < us.length
      ·
       obtain ⟨adu,eau,_,hcu⟩:=(HOU.out _ hT).nat hlt;obtain ⟨hpl2,hus⟩:=HUS.out us[j] (List.getElem_mem hlt);have HTK:=Lib.hid (show livesL k (us.take (j + 1)) = livesL k (us.take j) ++ (listN k.ins.length (LiveP k us[j])).map (fun a=>(us[j],a)) from by rw [List.take_succ_eq_append_getElem hlt,livesL_snoc]);generalize us[j] = p at *;have HUP:=Lib.hid hus;clear hus;subst eau;have hcl:=HS.out.le p;have cp:=own_at ho (j:=p) hpl2 (nv_get (gt_some (xs:=cs) (by rw [HS.out.len];exact hpl2)));have z1 : (0 : Int) ≤ (j : Int):=by omega
       have z2 : (j : Int) < (us.length : Int):=by omega
       have x1 : (0 : Int) ≤ (p : Int):=by omega
       have x2 : (p : Int) < (k.procs.length : Int):=by omega
       go_wp2_with fail
       refine (HFL.out p (gt cs p) hpl2 hcl _ hb).mono ?_;rintro e w3 ⟨Af,cf,rfl,hof,hb3⟩;have hX3:=(own_lt ho).2;have ho3:=own_below ho hb3;have hb03:=below_trans' hb hb3;clear hcu cp;go_wp2_with fail
       refine (HLV.out p hpl2 _ hb03).mono ?_;rintro e w4 ⟨Al,cl,rfl,hol,hb4⟩;have hX4:=(own_lt ho3).2;have ho4:=own_below ho3 hb4;have hof4:=own_below hof hb4;have hb04:=below_trans' hb03 hb4;obtain ⟨hfl1,hfl2⟩:=HFN.out p (gt cs p) hpl2;have HFL1:=Lib.hid hfl1;have HFL2:=Lib.hid hfl2;have HOF:=Lib.hid (fun V (h : Tch w.heap.size w.heap.size w.heap.size w4 V)=>own_rd (h.own hof4 hX3 hX3 hX3));have HOL:=Lib.hid (fun V (h : Tch w.heap.size w.heap.size w.heap.size w4 V)=>own_rd (h.own hol hX4 hX4 hX4));have HBT4:=Lib.hid (fun V (h : Tch w.heap.size w.heap.size w.heap.size w4 V)=>hb04.trans (h.below hb04.size (Nat.le_refl _) (Nat.le_refl _) (Nat.le_refl _)));have HT4:=Lib.hid ((hT.trans (Tch.of_below hb3)).trans (Tch.of_below hb4));have HLL:=Lib.hid (show ∀ a ∈ listN k.ins.length (LiveP k p),a < k.ins.length ∧ LiveP k p a from fun a h=>mem_listN.1 h);have hll:=listN_len k.ins.length (LiveP k p);have HTOP:=Lib.hid (show ∀ ds,FixB k es ds → Sub (gt ds p) (gt cs p) from fun ds hd=>(HS.out.top ds hd).2 p);have HSTP:=Lib.hid (fun ds (h : EntS k es ds) a (ha : LiveP k p a) (h4 : opN k a = 4)=>h.step HR.out hpl2 HUP.out ha h4 HTOP.out);have HM0:=Lib.hid (show nw = false → gt cs p = gt bs p from fun h=>by rw [(HP.out.no h).1]);have HSAM:=Lib.hid (fun dn nw2 ds (h : EnR k es bs dn nw2 ds) a (hm : nw2 = false → gt cs p = gt bs p) he=>h.same (p:=p) (a:=a) hm he);clear hfl1 hfl2 hb3 hb4 hof hof4 hol hb hb03 hb04 ho ho3 hT;generalize flowN k es p (gt cs p) = fl at *;generalize listN k.ins.length (LiveP k p) = ls at *;go_wp2_with fail
       obtain ⟨wo2,rfl⟩ : ∃ wo2 : World,wo2 = wr:=⟨_,rfl⟩
       go_loopg [7,60] ls.length (fun l ag i wr=>∃ (m : Nat) (ds : List Nat) (nw2 : Bool),m ≤ ls.length ∧ l = ls.length - m ∧ i = .int .i64 m ∧ ag = .bool nw2 ∧ wr.ownsRow w.heap.size 3 1 (.slice (some ⟨w.heap.size,0,none⟩) k.procs.length k.procs.length) k.procs.length (nv ds) ∧ EntS k es ds ∧ (nw2 = false → gt cs p = gt bs p) ∧ EnR k es bs (livesL k (us.take j) ++ (ls.take m).map (fun a=>(p,a))) nw2 ds ∧ Tch w.heap.size w.heap.size w.heap.size w4 wr)
       case atStart=>exact ⟨0,cs,nw,by omega,by omega,rfl,rfl,ho4,HS.out,HM0.out,by simpa using HP.out,Tch.refl _ _ _ _⟩
       case round =>
        clear ho4;obtain ⟨m,ds,nw2,hm,rfl,rfl,rfl,ho,hSd,hmd,hPd,hT⟩:=hrel;have HSD:=Lib.hid hSd;have HMD:=Lib.hid hmd;have HPD:=Lib.hid hPd;clear hSd hmd hPd;by_cases hltm : m < ls.length
        ·
         have hb:=HBT4.out _ hT;obtain ⟨adl,eal,_,hcl2⟩:=(HOL.out _ hT).nat hltm;obtain ⟨hal,hlv⟩:=HLL.out ls[m] (List.getElem_mem hltm);have HTM:=Lib.hid (show livesL k (us.take j) ++ (ls.take (m + 1)).map (fun a=>(p,a)) = (livesL k (us.take j) ++ (ls.take m).map (fun a=>(p,a))) ++ [(p,ls[m])] from by rw [List.take_succ_eq_append_getElem hltm,List.map_append,List.append_assoc];rfl);generalize ls[m] = a at *;have HLA:=Lib.hid hlv;clear hlv;subst eal;obtain ⟨c0,c1,c2,c3,c4⟩:=HKT.out _ hb;obtain ⟨ai,A',c',eA,hbi,k0,k1,k2,k3,k4,k5,k6,_⟩:=(HKC.out _ hb).full.i.get hal;rw [eA] at c4;rw [opN_eq hal] at k0;rw [argN_eq HR.out hal] at k1;clear eA;have z1 : (0 : Int) ≤ (m : Int):=by omega
         have z2 : (m : Int) < (ls.length : Int):=by omega
         have x1 : (0 : Int) ≤ (a : Int):=by omega
         have x2 : (a : Int) < (k.ins.length : Int):=by omega
         by_cases h4 : opN k a = 4
         ·
          have hpp:=argN_lt HR.out hal (.inl h4);rw [h4] at k0;have hfa:=HFL2.out a;obtain ⟨adf,eaf,_,hcf⟩:=(HOF.out _ hT).nat (j:=a) (by rw [HFL1.out];exact hal);subst eaf;rw [gt_get (xs:=fl) (by rw [HFL1.out];exact hal)] at hcf;have cq:=own_at ho (j:=argN k a) hpp (nv_get (gt_some (xs:=ds) (by rw [HSD.out.len];exact hpp)));have hdl:=HSD.out.le (argN k a);have ea:=i64_and_nat (gt ds (argN k a)) (gt fl a) (by omega) (by omega);have v1 : (0 : Int) ≤ (argN k a : Int):=by omega
          have v2 : (argN k a : Int) < (k.procs.length : Int):=by omega
          have bA:=below_alloc0 wr (.cells #[.int .i64 4,.int .i64 (argN k a),.int .i64 k.ins[a].term.kind,.int .i64 k.ins[a].term.num,.string k.ins[a].term.name,.slice A' k.ins[a].term.kids.length c',.int .i64 k.ins[a].to] 52);have b0:=box_cell wr #[.int .i64 4,.int .i64 (argN k a),.int .i64 k.ins[a].term.kind,.int .i64 k.ins[a].term.num,.string k.ins[a].term.name,.slice A' k.ins[a].term.kids.length c',.int .i64 k.ins[a].to] 52 0 rfl;have b1:=box_cell wr #[.int .i64 4,.int .i64 (argN k a),.int .i64 k.ins[a].term.kind,.int .i64 k.ins[a].term.num,.string k.ins[a].term.name,.slice A' k.ins[a].term.kids.length c',.int .i64 k.ins[a].to] 52 1 rfl;have hcf2:=cell_below bA hcf;have cq2:=cell_below bA cq;have ho2:=own_below ho bA;have hT2:=hT.trans (Tch.of_below bA);have fz2:=ho2.frozenAt (argN k a);have HAQ:=Lib.hid (show argN k a < ds.length from by rw [HSD.out.len];exact hpp);by_cases he : gt ds (argN k a) &&& gt fl a = gt ds (argN k a)
          ·
           have hne : (((gt ds (argN k a) &&& gt fl a : Nat) : Int) != ((gt ds (argN k a) : Nat) : Int)) = false:=by rw [he];simp
           have HP2:=Lib.hid (HSAM.out _ nw2 ds HPD.out a HMD.out he);clear he h4 bA;go_wp2_with fail
           clear c0 c1 c2 c3 c4 k0 k1 k2 k3 k4 k5 k6 hcf cq hcl2 hT ho hb;generalize wr.alloc (.cells #[.int .i64 4,.int .i64 (argN k a),.int .i64 k.ins[a].term.kind,.int .i64 k.ins[a].term.num,.string k.ins[a].term.name,.slice A' k.ins[a].term.kids.length c',.int .i64 k.ins[a].to] 52) = wa at *;generalize wr.heap.size = bx at *;go_quiet (fail)
           go_wp2_with fail
           go_roundg (ls.length - (m + 1))
           case measure=>omega
           case rel=>exact ⟨m + 1,ds,nw2,by omega,rfl,by go_num,rfl,own_below ho2 (below_drewN (Below.refl wa.heap.size wa) nq),HSD.out,HMD.out,by rw [HTM.out];exact HP2.out,hT2.trans (Tch.of_below (below_drewN (Below.refl wa.heap.size wa) nq))⟩
          ·
           have hne : (((gt ds (argN k a) &&& gt fl a : Nat) : Int) != ((gt ds (argN k a) : Nat) : Int)) = true:=by
            simp only [bne_iff_ne,ne_eq];omega
           have HP2:=Lib.hid (HPD.out.less (p:=p) HAQ.out he);have HS2:=Lib.hid (HSTP.out ds HSD.out a HLA.out h4);clear he h4 bA;go_wp2_with fail
           clear c0 c1 c2 c3 c4 k0 k1 k2 k3 k4 k5 k6 hcf cq hcl2 hT ho hb;generalize wr.alloc (.cells #[.int .i64 4,.int .i64 (argN k a),.int .i64 k.ins[a].term.kind,.int .i64 k.ins[a].term.num,.string k.ins[a].term.name,.slice A' k.ins[a].term.kids.length c',.int .i64 k.ins[a].to] 52) = wa at *;generalize wr.heap.size = bx at *;go_quiet (fail)
           have ho3:=own_below ho2 (below_drewN (Below.refl wa.heap.size wa) nq);have hT3:=hT2.trans (Tch.of_below (below_drewN (Below.refl wa.heap.size wa) nq));have b13:=cell_below (below_drewN (Below.refl wa.heap.size wa) nq) b1;have hcf3:=cell_below (below_drewN (Below.refl wa.heap.size wa) nq) hcf2;have cq3:=cell_below (below_drewN (Below.refl wa.heap.size wa) nq) cq2;clear b0 b1 hcf2 cq2 ho2 hT2 fz2;generalize wa.drewN nq = wb at *;go_wp2_with fail
           go_still_tail 11,(by kernel_rfl)
           change wpList _ _ _ _ _ wb.drew
           have fz3 : wb.drew.frozen? ⟨w.heap.size,argN k a,none⟩ = false:=ho3.frozenAt (argN k a);have cq4 : wb.drew.cell? ⟨w.heap.size,argN k a,none⟩ = some (.int .i64 ((gt ds (argN k a) : Nat) : Int)):=cq3;have hoD : wb.drew.ownsRow w.heap.size 3 1 (.slice (some ⟨w.heap.size,0,none⟩) k.procs.length k.procs.length) k.procs.length (nv ds):=ho3;obtain ⟨s1,s2⟩:=hoD.stored (argN k a) (.int .i64 ((gt ds (argN k a) &&& gt fl a : Nat) : Int));rw [nv_set] at s1;have hTD:=hT3.drew.set (a:=⟨w.heap.size,argN k a,none⟩) (.inl rfl) (.int .i64 ((gt ds (argN k a) &&& gt fl a : Nat) : Int));clear b13 hcf3 cq3 ho3 hoD hT3 s2;generalize wb.drew = wc at *;go_wp2_with fail
           go_roundg (ls.length - (m + 1))
           case measure=>omega
           case rel=>exact ⟨m + 1,_,true,by omega,rfl,by go_num,rfl,s1,HS2.out,fun hf=>by simp at hf,by rw [HTM.out];exact HP2.out,hTD⟩
         ·
          have e4 : (opN k a == 4) = false:=by simpa using h4
          have HP2:=Lib.hid (HPD.out.skip (p:=p) h4);have bA:=below_alloc0 wr (.cells #[.int .i64 (opN k a),.int .i64 (argN k a),.int .i64 k.ins[a].term.kind,.int .i64 k.ins[a].term.num,.string k.ins[a].term.name,.slice A' k.ins[a].term.kids.length c',.int .i64 k.ins[a].to] 52);have b0:=box_cell wr #[.int .i64 (opN k a),.int .i64 (argN k a),.int .i64 k.ins[a].term.kind,.int .i64 k.ins[a].term.num,.string k.ins[a].term.name,.slice A' k.ins[a].term.kids.length c',.int .i64 k.ins[a].to] 52 0 rfl;have ho2:=own_below ho bA;have hT2:=hT.trans (Tch.of_below bA);clear h4 bA;go_wp2_with fail
          clear c0 c1 c2 c3 c4 k0 k1 k2 k3 k4 k5 k6 hcl2 hT ho hb;generalize wr.alloc (.cells #[.int .i64 (opN k a),.int .i64 (argN k a),.int .i64 k.ins[a].term.kind,.int .i64 k.ins[a].term.num,.string k.ins[a].term.name,.slice A' k.ins[a].term.kids.length c',.int .i64 k.ins[a].to] 52) = wa at *;generalize wr.heap.size = bx at *;go_quiet (fail)
          go_wp2_with fail
          go_roundg (ls.length - (m + 1))
          case measure=>omega
          case rel=>exact ⟨m + 1,ds,nw2,by omega,rfl,by go_num,rfl,own_below ho2 (below_drewN (Below.refl wa.heap.size wa) nq),HSD.out,HMD.out,by rw [HTM.out];exact HP2.out,hT2.trans (Tch.of_below (below_drewN (Below.refl wa.heap.size wa) nq))⟩
        ·
         obtain rfl : m = ls.length:=by omega
         have hp2:=HPD.out;rw [List.take_length,← HTK.out] at hp2;have HP2:=Lib.hid hp2;clear hp2;go_wp2_with fail
         go_roundg (us.length - (j + 1))
         case measure=>omega
         case rel=>exact ⟨j + 1,ds,nw2,by omega,rfl,by go_num,rfl,ho,HSD.out,HP2.out,HT4.out.trans hT⟩
      ·
       obtain rfl : j = us.length:=by omega
       have hp2:=HP.out;rw [List.take_length] at hp2;have HP2:=Lib.hid hp2;clear hp2;go_wp2_with fail
       go_roundg (2 * cs.sum + (if nw then 1 else 0))
       case measure =>
        cases nw
        · rw [(HP2.out.no rfl).1];simp
        · have:=HP2.out.yes rfl;simp;omega
       case rel=>exact ⟨cs,nw,rfl,rfl,ho,HS.out,fun hf=>by rw [(HP2.out.no hf).1];exact (HP2.out.no hf).2,hb⟩
theorem l15Entries_any {B B' L : Nat} (v : CV) (k : Cd) (A : Option Addr) (c : Nat) (es : List (Int × Int)) (w : World) (hr : Right k) (hk : CodeAt w B v k) (hcb : CdB L k) (hL : L ≤ 1048576) (he : Rd w B' A (effCells es)) (hes : ∀ e ∈ es, effB e = true) (hel : es.length = k.procs.length) :
  Calls Tryz.prog 175 #[.agg #[.slice v.gA k.globals.length v.gc, .slice v.lA k.locks.length v.lc, .slice v.pA k.procs.length v.pc, .slice v.eA k.entry.length v.ec, .slice v.iA k.ins.length v.ic],.slice A k.procs.length c] w fun e w'=>NewNats w (entN k es) e w' ∧ EntS k es (entN k es):=by
 have hkf:=hk.full;have hef:=he.full;have hbx:=codeBox w v k;have hins:=hr.ins;have hpl:=hr.procs;have h0p:=List.length_pos_of_mem hr.main;have HR:=Lib.hid hr;have HEL:=Lib.hid hr.entry;have HKC:=Lib.hid (fun W (hb : Below w.heap.size w W)=>hkf.below hb);have HRT:=Lib.hid (fun W (hb : Below w.heap.size w W)=>l14Roots_any v k W hr (hkf.below hb));have HUT:=Lib.hid (fun W (hb : Below w.heap.size w W)=>l14Used_any v k W hr (hkf.below hb));have HLV:=Lib.hid (fun p (hp : p < k.procs.length) W (hb : Below w.heap.size w W)=>l09Live_any v k p W hr (hkf.below hb) hp);have HEN:=Lib.hid (fun p (hp : p < k.procs.length) W (hb : Below w.heap.size w W)=>l08End_right v k p W hr (hkf.below hb) hcb hL hp);have HFL:=Lib.hid (fun (p held : Nat) (hp : p < k.procs.length) (hh : held < 64) W (hb : Below w.heap.size w W)=>(show Calls Tryz.prog 176 #[.agg #[.slice v.gA k.globals.length v.gc, .slice v.lA k.locks.length v.lc, .slice v.pA k.procs.length v.pc, .slice v.eA k.entry.length v.ec, .slice v.iA k.ins.length v.ic],.slice A k.procs.length c,.int .i64 p,.int .i64 held] W fun e w'=>∃ Af cf,e = .returned (.slice Af k.ins.length cf) ∧ w'.ownsRow W.heap.size 3 1 (.slice Af k.ins.length cf) k.ins.length (nv (flowN k es p held)) ∧ Below W.heap.size W w' from by
  have h:=l13From_any v k A c es p held W hr (hkf.below hb) (hef.below hb) hes hel hp hh;rw [hel] at h;refine h.mono ?_;rintro e w' ⟨Af,cf,rfl,ho,hb'⟩;rw [flowN_len hr hp] at ho ⊢;exact ⟨Af,cf,rfl,ho,hb'⟩))
 have HFN:=Lib.hid (fun (p held : Nat) (hp : p < k.procs.length)=>(⟨flowN_len hr hp,flowN_lt hr hp⟩ : (flowN k es p held).length = k.ins.length ∧ ∀ i,gt (flowN k es p held) i < 64));have HE0:=Lib.hid (entS0 (es:=es) hr);have HSTOP:=Lib.hid (fun bs (h : EntS k es bs) hf=>h.stop hr (fun p hp=>used_lt hr hp) hf);clear hr hk he hes hkf hef hel hcb
 go_enter Tryz.func175, Tryz.ntmps175
 go_wp2_with fail
 generalize w.alloc (.cells #[.slice v.gA k.globals.length v.gc, .slice v.lA k.locks.length v.lc, .slice v.pA k.procs.length v.pc, .slice v.eA k.entry.length v.ec, .slice v.iA k.ins.length v.ic] 28) = W at hbx ⊢;refine (HRT.out _ hbx.1).mono ?_;rintro e w1 ⟨Ar,cr,rfl,hor,hb1⟩;rw [markL_len];have hbx1:=hbx.to hb1;obtain ⟨q1,q2,c0,c1,c2,c3,c4⟩:=id hbx1;clear hbx;go_wp2_with fail
 refine (HUT.out _ hbx1.1).mono ?_;rintro e w2 ⟨Au,cu,rfl,hou,hb2⟩;rw [markL_len];have hbx2:=hbx1.to hb2;have hw2:=hbx2.2.1;have HRR:=Lib.hid (fun V (hb : Below w2.heap.size w2 V)=>((own_rd hor).below hb2).full.below hb);have HRU:=Lib.hid (fun V (hb : Below w2.heap.size w2 V)=>(own_rd hou).below hb);have ho0 : (w2.alloc (.cells #[] 3)).ownsRow w2.heap.size 3 1 (.slice (some ⟨w2.heap.size,0,none⟩) 0 0) 0 (nv (ent0 k 0)):=by
  have:=World.ownsRow_lit (base:=w2.heap.size) (e := 3) (size:=1) w2 #[] 0 (Nat.le_refl _) (by simp) rfl;simpa [nv,ent0] using this
 have hbA:=below_alloc0 w2 (.cells #[] 3);have HBX:=Lib.hid (fun V (hb : Below w2.heap.size w2 V)=>hbx2.to hb);obtain ⟨d1,d2,e0,e1,e2,e3,e4⟩:=HBX.out _ hbA;clear q1 q2 c0 c1 c2 c3 c4 hbx1 hb1 hb2 hor hou hbx2;go_wp2_with fail
 clear d1 d2 e0 e1 e2 e3 e4;go_loopg [7,8] k.procs.length (fun l out i wr=>∃ j : Nat,j ≤ k.procs.length ∧ l = k.procs.length - j ∧ i = .int .i64 j ∧ wr.ownsRow w2.heap.size 3 1 out j (nv (ent0 k j)) ∧ Below w2.heap.size w2 wr)
 case atStart=>exact ⟨0,by omega,by omega,rfl,ho0,hbA⟩
 case round =>
  clear ho0 hbA;obtain ⟨j,hj,rfl,rfl,ho,hb⟩:=hrel;obtain ⟨co,Ao,rfl⟩ : ∃ co Ao,_:=by
   obtain ⟨Ao,co,e⟩:=own_form ho;exact ⟨co,Ao,e⟩
  have hsz:=hb.size;obtain ⟨q1,q2,c0,c1,c2,c3,c4⟩:=HBX.out _ hb;by_cases hlt : j < k.procs.length
  ·
   obtain ⟨adr,ear,_,hcr⟩:=(HRR.out _ hb).mark (j:=j) (by rw [markL_len];exact hlt);subst ear;have z1 : (0 : Int) ≤ (j : Int):=by omega
   have z2 : (j : Int) < (k.procs.length : Int):=by omega
   by_cases hrt : RootP k j
   ·
    rw [mkd_markL_pos hlt hrt] at hcr;have HS:=Lib.hid (show ent0 k (j + 1) = ent0 k j ++ [0] from by rw [ent0_snoc,if_pos hrt]);clear hrt;go_wp2_with (at_builtin;refine append_int (z:=((0 : Nat) : Int)) rfl _ _ rfl ho rfl rfl (by omega) hsz ?_;intro A' c' w3 ho3 hg3 _)
    go_roundg (k.procs.length - (j + 1))
    case measure=>omega
    case rel=>exact ⟨j + 1,by omega,rfl,by go_num,by rw [HS.out,nv_snoc];exact ho3,below_append hb ho hg3 hsz (Nat.le_refl _)⟩
   ·
    rw [mkd_markL_neg hrt] at hcr;have HS:=Lib.hid (show ent0 k (j + 1) = ent0 k j ++ [63] from by rw [ent0_snoc,if_neg hrt]);clear hrt;go_wp2_with (at_builtin;refine append_int (z:=((63 : Nat) : Int)) rfl _ _ rfl ho rfl rfl (by omega) hsz ?_;intro A' c' w3 ho3 hg3 _)
    go_roundg (k.procs.length - (j + 1))
    case measure=>omega
    case rel=>exact ⟨j + 1,by omega,rfl,by go_num,by rw [HS.out,nv_snoc];exact ho3,below_append hb ho hg3 hsz (Nat.le_refl _)⟩
  ·
   obtain rfl : j = k.procs.length:=by omega
   obtain ⟨gb,rfl⟩ : ∃ gb,Ao = some ⟨gb,0,none⟩:=by
    rcases ho.2 with ⟨e,h0⟩ | ⟨g,cap,cur,e,_⟩
    · omega
    · injection e with e;exact ⟨g,e⟩
   have hgb : w2.heap.size ≤ gb:=(own_lt ho).1;go_wp2_with fail
   clear q1 q2 c0 c1 c2 c3 c4;go_loopg [10] (2 * (ent0 k k.procs.length).sum + 1) (fun l ag wr=>∃ (bs : List Nat) (new : Bool),ag = .bool new ∧ l = 2 * bs.sum + (if new then 1 else 0) ∧ wr.ownsRow w2.heap.size 3 1 (.slice (some ⟨gb,0,none⟩) k.procs.length co) k.procs.length (nv bs) ∧ EntS k es bs ∧ (new = false → ∀ d ∈ livesL k (listN k.procs.length (UsedP k)),opN k d.2 = 4 → Sub (gt bs (argN k d.2)) (gt (flowN k es d.1 (gt bs d.1)) d.2)) ∧ Below w2.heap.size w2 wr)
   case atStart=>exact ⟨_,true,rfl,rfl,ho,HE0.out,by simp,hb⟩
   case round =>
    clear ho hb HE0;obtain ⟨bs,new,rfl,rfl,ho,hS,hfx,hb⟩:=hrel;have HFX:=Lib.hid hfx;have HS:=Lib.hid hS;clear hfx hS;cases new
    ·
     have hfin:=HSTOP.out bs HS.out (HFX.out rfl);have HFI:=Lib.hid (show NewNats w (entN k es) (.returned (.slice (some ⟨gb,0,none⟩) k.procs.length co)) wr ∧ EntS k es (entN k es) from by
      rw [← hfin];exact ⟨⟨some ⟨gb,0,none⟩,co,by rw [HS.out.len],by rw [HS.out.len];exact own_mono ho (by omega),(HBX.out _ hb).1⟩,HS.out⟩)
     clear hfin;go_wp2_with fail
     go_ret
     exact HFI.out
    ·
     clear HFX;go_wp2_with fail
     obtain ⟨wo,rfl⟩ : ∃ wo : World,wo = wr:=⟨_,rfl⟩
     go_loopg [10,11] k.procs.length (fun l ag i wr=>∃ (p : Nat) (cs : List Nat) (nw : Bool),p ≤ k.procs.length ∧ l = k.procs.length - p ∧ i = .int .i64 p ∧ ag = .bool nw ∧ wr.ownsRow w2.heap.size 3 1 (.slice (some ⟨gb,0,none⟩) k.procs.length co) k.procs.length (nv cs) ∧ EntS k es cs ∧ EnR k es bs (livesL k (listN p (UsedP k))) nw cs ∧ Below w2.heap.size w2 wr)
     case atStart=>exact ⟨0,bs,false,by omega,by omega,rfl,rfl,ho,HS.out,EnR.refl,hb⟩
     case round =>
      clear ho HS hb;obtain ⟨p,cs,nw,hj,rfl,rfl,rfl,ho,hS,hP,hb⟩:=hrel;have HS:=Lib.hid hS;have HP:=Lib.hid hP;clear hS hP;have hbxr:=HBX.out _ hb;obtain ⟨q1,q2,c0,c1,c2,c3,c4⟩:=id hbxr;by_cases hlt : p < k.procs.length
      ·
       obtain ⟨adu,eau,_,hcu⟩:=(HRU.out _ hb).mark (j:=p) (by rw [markL_len];exact hlt);subst eau;have x1 : (0 : Int) ≤ (p : Int):=by omega
       have x2 : (p : Int) < (k.procs.length : Int):=by omega
       by_cases hus : UsedP k p
       ·
        rw [mkd_markL_pos hlt hus] at hcu;have HTK:=Lib.hid (show livesL k (listN (p + 1) (UsedP k)) = livesL k (listN p (UsedP k)) ++ (listN k.ins.length (LiveP k p)).map (fun a=>(p,a)) from by rw [listN_step hus,livesL_snoc]);have HUP:=Lib.hid hus;clear hus;have hcl:=HS.out.le p;have cp:=own_at ho (j:=p) hlt (nv_get (gt_some (xs:=cs) (by rw [HS.out.len];exact hlt)));have hfp:=HR.out.lt p hlt;go_wp2_with fail
        go_still_tail 7,(by kernel_rfl)
        change wpList _ _ _ _ _ wr.drew
        go_wp2_with fail
        refine (HFL.out p (gt cs p) hlt hcl _ hbxr.1.drew).mono ?_;rintro e w3 ⟨Af,cf,rfl,hof,hb3⟩;have hoD : wr.drew.ownsRow w2.heap.size 3 1 (.slice (some ⟨gb,0,none⟩) k.procs.length co) k.procs.length (nv cs):=ho;have hX3:=(own_lt hoD).2;have ho3:=own_below hoD hb3;have hb03 : Below w2.heap.size w2 w3:=below_trans' hb.drew hb3;have hbx3:=HBX.out _ hb03;clear q1 q2 c0 c1 c2 c3 c4 hcu cp ho hoD hbxr;obtain ⟨q1,q2,c0,c1,c2,c3,c4⟩:=id hbx3;go_wp2_with fail
        refine (HLV.out p hlt _ hbx3.1).mono ?_;rintro e w4 ⟨Al,cl,rfl,hol,hb4⟩;rw [markL_len];have hX4:=(own_lt ho3).2;have ho4:=own_below ho3 hb4;have hof4:=own_below hof hb4;have hb04:=below_trans' hb03 hb4;obtain ⟨hfl1,hfl2⟩:=HFN.out p (gt cs p) hlt;have HFL1:=Lib.hid hfl1;have HFL2:=Lib.hid hfl2;have HOF:=Lib.hid (fun V (h : Tch gb gb gb w4 V)=>own_rd (h.own hof4 hX3 hX3 hX3));have HOL:=Lib.hid (fun V (h : Tch gb gb gb w4 V)=>own_rd (h.own hol hX4 hX4 hX4));have HBT4:=Lib.hid (fun V (h : Tch gb gb gb w4 V)=>hb04.trans (h.below hb04.size hgb hgb hgb));have HTOP:=Lib.hid (show ∀ ds,FixB k es ds → Sub (gt ds p) (gt cs p) from fun ds hd=>(HS.out.top ds hd).2 p);have HSTP:=Lib.hid (fun ds (h : EntS k es ds) a (ha : LiveP k p a) (h4 : opN k a = 4)=>h.step HR.out hlt HUP.out ha h4 HTOP.out);have HM0:=Lib.hid (show nw = false → gt cs p = gt bs p from fun h=>by rw [(HP.out.no h).1]);have HSAM:=Lib.hid (fun dn nw2 ds (h : EnR k es bs dn nw2 ds) a (hm : nw2 = false → gt cs p = gt bs p) he=>h.same (p:=p) (a:=a) hm he);obtain ⟨ade,ee,hbe,hce⟩:=entry_cell HR.out (HKC.out _ (HBX.out _ hb04).1).full hlt;obtain ⟨r1,r2,d0,d1,d2,d3,d4⟩:=HBX.out _ hb04;rw [ee] at d3;have HEE:=Lib.hid ee;have y2 : (p : Int) < (k.entry.length : Int):=by have:=HEL.out;omega
        have HL0:=Lib.hid (show listN (ent k p) (LiveP k p) = [] from listN_nil fun i hi=>(live_in HR.out hlt hi).2.2.1);have HL9:=Lib.hid (show listN k.ins.length (LiveP k p) = listN (fin k p) (LiveP k p) from listN_end (fun i hi=>(live_in HR.out hlt hi).2.2.2) hfp.2);clear ee hfl1 hfl2 hb3 hb4 hof hof4 hol hb hb03 ho3 q1 q2 c0 c1 c2 c3 c4 hbx3;generalize flowN k es p (gt cs p) = fl at *;go_wp2_with fail
        clear d0 d1 d2 d3 d4 r1 r2 hce;obtain ⟨wo2,rfl⟩ : ∃ wo2 : World,wo2 = wr:=⟨_,rfl⟩
        go_loopg [10,14] (fin k p - ent k p) (fun l ag i wr=>∃ (m : Nat) (ds : List Nat) (nw2 : Bool),ent k p ≤ m ∧ m ≤ fin k p ∧ l = fin k p - m ∧ i = .int .i64 m ∧ ag = .bool nw2 ∧ wr.ownsRow w2.heap.size 3 1 (.slice (some ⟨gb,0,none⟩) k.procs.length co) k.procs.length (nv ds) ∧ EntS k es ds ∧ (nw2 = false → gt cs p = gt bs p) ∧ EnR k es bs (livesL k (listN p (UsedP k)) ++ (listN m (LiveP k p)).map (fun a=>(p,a))) nw2 ds ∧ Tch gb gb gb w4 wr)
        case atStart=>exact ⟨ent k p,cs,nw,by omega,by omega,rfl,rfl,rfl,ho4,HS.out,HM0.out,by rw [HL0.out];simpa using HP.out,Tch.refl _ _ _ _⟩
        case round =>
         clear ho4;obtain ⟨a,ds,nw2,hm0,hm,rfl,rfl,rfl,ho,hSd,hmd,hPd,hT⟩:=hrel;have HSD:=Lib.hid hSd;have HMD:=Lib.hid hmd;have HPD:=Lib.hid hPd;clear hSd hmd hPd;have hb:=HBT4.out _ hT;have hbxr:=HBX.out _ hb;obtain ⟨q1,q2,c0,c1,c2,c3,c4⟩:=id hbxr;go_wp2_with fail
         refine (HEN.out p hlt _ hbxr.1).mono ?_;rintro e w6 ⟨rfl,hb6⟩;have ho:=own_below ho hb6;have hT:=hT.trans (Tch.of_below hb6);have hb:=HBT4.out _ hT;have hbxr:=HBX.out _ hb;clear q1 q2 c0 c1 c2 c3 c4 hb6;by_cases hltm : a < fin k p
         ·
          have hal : a < k.ins.length:=by omega
          have hle : (a : Int) ≤ ((fin k p - 1 : Nat) : Int):=by omega
          obtain ⟨q1,q2,c0,c1,c2,c3,c4⟩:=id hbxr;obtain ⟨adl,eal,_,hcl2⟩:=(HOL.out _ hT).mark (j:=a) (by rw [markL_len];exact hal);subst eal;obtain ⟨ai,A',c',eA,hbi,k0,k1,k2,k3,k4,k5,k6,_⟩:=(HKC.out _ hbxr.1).full.i.get hal;rw [eA] at c4;rw [opN_eq hal] at k0;rw [argN_eq HR.out hal] at k1;clear eA;have x3 : (0 : Int) ≤ (a : Int):=by omega
          have x4 : (a : Int) < (k.ins.length : Int):=by omega
          by_cases hlv : LiveP k p a
          ·
           rw [mkd_markL_pos hal hlv] at hcl2;have HTM:=Lib.hid (show livesL k (listN p (UsedP k)) ++ (listN (a + 1) (LiveP k p)).map (fun a=>(p,a)) = (livesL k (listN p (UsedP k)) ++ (listN a (LiveP k p)).map (fun a=>(p,a))) ++ [(p,a)] from by rw [listN_step hlv,List.map_append,List.append_assoc];rfl);have HLA:=Lib.hid hlv;clear hlv;by_cases h4 : opN k a = 4
           ·
            have hpp:=argN_lt HR.out hal (.inl h4);rw [h4] at k0;have hfa:=HFL2.out a;obtain ⟨adf,eaf,_,hcf⟩:=(HOF.out _ hT).nat (j:=a) (by rw [HFL1.out];exact hal);subst eaf;rw [gt_get (xs:=fl) (by rw [HFL1.out];exact hal)] at hcf;have cq:=own_at ho (j:=argN k a) hpp (nv_get (gt_some (xs:=ds) (by rw [HSD.out.len];exact hpp)));have hdl:=HSD.out.le (argN k a);have ea:=i64_and_nat (gt ds (argN k a)) (gt fl a) (by omega) (by omega);have v1 : (0 : Int) ≤ (argN k a : Int):=by omega
            have v2 : (argN k a : Int) < (k.procs.length : Int):=by omega
            have bA:=below_alloc0 w6 (.cells #[.int .i64 4,.int .i64 (argN k a),.int .i64 k.ins[a].term.kind,.int .i64 k.ins[a].term.num,.string k.ins[a].term.name,.slice A' k.ins[a].term.kids.length c',.int .i64 k.ins[a].to] 52);have b0:=box_cell w6 #[.int .i64 4,.int .i64 (argN k a),.int .i64 k.ins[a].term.kind,.int .i64 k.ins[a].term.num,.string k.ins[a].term.name,.slice A' k.ins[a].term.kids.length c',.int .i64 k.ins[a].to] 52 0 rfl;have b1:=box_cell w6 #[.int .i64 4,.int .i64 (argN k a),.int .i64 k.ins[a].term.kind,.int .i64 k.ins[a].term.num,.string k.ins[a].term.name,.slice A' k.ins[a].term.kids.length c',.int .i64 k.ins[a].to] 52 1 rfl;have hcf2:=cell_below bA hcf;have cq2:=cell_below bA cq;have hcl3:=cell_below bA hcl2;have ho2:=own_below ho bA;have hT2:=hT.trans (Tch.of_below bA);have HAQ:=Lib.hid (show argN k a < ds.length from by rw [HSD.out.len];exact hpp);by_cases he : gt ds (argN k a) &&& gt fl a = gt ds (argN k a)
            ·
             have hne : (((gt ds (argN k a) &&& gt fl a : Nat) : Int) != ((gt ds (argN k a) : Nat) : Int)) = false:=by rw [he];simp
             have HP2:=Lib.hid (HSAM.out _ nw2 ds HPD.out a HMD.out he);clear he h4 bA;go_wp2_with fail
             clear c0 c1 c2 c3 c4 q1 q2 k0 k1 k2 k3 k4 k5 k6 hcf cq hcl2 hT ho hb hbxr;generalize w6.alloc (.cells #[.int .i64 4,.int .i64 (argN k a),.int .i64 k.ins[a].term.kind,.int .i64 k.ins[a].term.num,.string k.ins[a].term.name,.slice A' k.ins[a].term.kids.length c',.int .i64 k.ins[a].to] 52) = wa at *;generalize w6.heap.size = bx at *;go_quiet (fail)
             go_wp2_with fail
             go_roundg (fin k p - (a + 1))
             case measure=>omega
             case rel=>exact ⟨a + 1,ds,nw2,by omega,by omega,rfl,by go_num,rfl,own_below ho2 (below_drewN (Below.refl wa.heap.size wa) nq),HSD.out,HMD.out,by rw [HTM.out];exact HP2.out,hT2.trans (Tch.of_below (below_drewN (Below.refl wa.heap.size wa) nq))⟩
            ·
             have hne : (((gt ds (argN k a) &&& gt fl a : Nat) : Int) != ((gt ds (argN k a) : Nat) : Int)) = true:=by
              simp only [bne_iff_ne,ne_eq];omega
             have HP2:=Lib.hid (HPD.out.less (p:=p) HAQ.out he);have HS2:=Lib.hid (HSTP.out ds HSD.out a HLA.out h4);clear he h4 bA;go_wp2_with fail
             clear c0 c1 c2 c3 c4 q1 q2 k0 k1 k2 k3 k4 k5 k6 hcf cq hcl2 hT ho hb hbxr;generalize w6.alloc (.cells #[.int .i64 4,.int .i64 (argN k a),.int .i64 k.ins[a].term.kind,.int .i64 k.ins[a].term.num,.string k.ins[a].term.name,.slice A' k.ins[a].term.kids.length c',.int .i64 k.ins[a].to] 52) = wa at *;generalize w6.heap.size = bx at *;go_quiet (fail)
             have ho3:=own_below ho2 (below_drewN (Below.refl wa.heap.size wa) nq);have hT3:=hT2.trans (Tch.of_below (below_drewN (Below.refl wa.heap.size wa) nq));have b13:=cell_below (below_drewN (Below.refl wa.heap.size wa) nq) b1;have hcf3:=cell_below (below_drewN (Below.refl wa.heap.size wa) nq) hcf2;have cq3:=cell_below (below_drewN (Below.refl wa.heap.size wa) nq) cq2;clear b0 b1 hcf2 cq2 ho2 hT2 hcl3;generalize wa.drewN nq = wb at *;go_wp2_with fail
             go_still_tail 14,(by kernel_rfl)
             change wpList _ _ _ _ _ wb.drew
             have fz3 : wb.drew.frozen? ⟨gb,argN k a,none⟩ = false:=ho3.frozenAt (argN k a);have cq4 : wb.drew.cell? ⟨gb,argN k a,none⟩ = some (.int .i64 ((gt ds (argN k a) : Nat) : Int)):=cq3;have hoD : wb.drew.ownsRow w2.heap.size 3 1 (.slice (some ⟨gb,0,none⟩) k.procs.length co) k.procs.length (nv ds):=ho3;obtain ⟨s1,s2⟩:=hoD.stored (argN k a) (.int .i64 ((gt ds (argN k a) &&& gt fl a : Nat) : Int));rw [nv_set] at s1;have hTD:=hT3.drew.set (a:=⟨gb,argN k a,none⟩) (.inl rfl) (.int .i64 ((gt ds (argN k a) &&& gt fl a : Nat) : Int));clear b13 hcf3 cq3 ho3 hoD hT3 s2;generalize wb.drew = wc at *;go_wp2_with fail
             go_roundg (fin k p - (a + 1))
             case measure=>omega
             case rel=>exact ⟨a + 1,_,true,by omega,by omega,rfl,by go_num,rfl,s1,HS2.out,fun hf=>by simp at hf,by rw [HTM.out];exact HP2.out,hTD⟩
           ·
            have e4 : (opN k a == 4) = false:=by simpa using h4
            have HP2:=Lib.hid (HPD.out.skip (p:=p) h4);have bA:=below_alloc0 w6 (.cells #[.int .i64 (opN k a),.int .i64 (argN k a),.int .i64 k.ins[a].term.kind,.int .i64 k.ins[a].term.num,.string k.ins[a].term.name,.slice A' k.ins[a].term.kids.length c',.int .i64 k.ins[a].to] 52);have b0:=box_cell w6 #[.int .i64 (opN k a),.int .i64 (argN k a),.int .i64 k.ins[a].term.kind,.int .i64 k.ins[a].term.num,.string k.ins[a].term.name,.slice A' k.ins[a].term.kids.length c',.int .i64 k.ins[a].to] 52 0 rfl;have ho2:=own_below ho bA;have hT2:=hT.trans (Tch.of_below bA);have hcl3:=cell_below bA hcl2;clear h4 bA;go_wp2_with fail
            clear c0 c1 c2 c3 c4 q1 q2 k0 k1 k2 k3 k4 k5 k6 hcl2 hT ho hb hbxr;generalize w6.alloc (.cells #[.int .i64 (opN k a),.int .i64 (argN k a),.int .i64 k.ins[a].term.kind,.int .i64 k.ins[a].term.num,.string k.ins[a].term.name,.slice A' k.ins[a].term.kids.length c',.int .i64 k.ins[a].to] 52) = wa at *;generalize w6.heap.size = bx at *;go_quiet (fail)
            go_wp2_with fail
            go_roundg (fin k p - (a + 1))
            case measure=>omega
            case rel=>exact ⟨a + 1,ds,nw2,by omega,by omega,rfl,by go_num,rfl,own_below ho2 (below_drewN (Below.refl wa.heap.size wa) nq),HSD.out,HMD.out,by rw [HTM.out];exact HP2.out,hT2.trans (Tch.of_below (below_drewN (Below.refl wa.heap.size wa) nq))⟩
          ·
           rw [mkd_markL_neg hlv] at hcl2;have HTM:=Lib.hid (show listN (a + 1) (LiveP k p) = listN a (LiveP k p) from listN_skip hlv);have bA:=below_alloc0 w6 (.cells #[.int .i64 (opN k a),.int .i64 (argN k a),.int .i64 k.ins[a].term.kind,.int .i64 k.ins[a].term.num,.string k.ins[a].term.name,.slice A' k.ins[a].term.kids.length c',.int .i64 k.ins[a].to] 52);have ho2:=own_below ho bA;have hT2:=hT.trans (Tch.of_below bA);have hcl3:=cell_below bA hcl2;clear hlv bA;go_wp2_with fail
           clear c0 c1 c2 c3 c4 q1 q2 k0 k1 k2 k3 k4 k5 k6 hcl2 hT ho hb hbxr;generalize w6.alloc (.cells #[.int .i64 (opN k a),.int .i64 (argN k a),.int .i64 k.ins[a].term.kind,.int .i64 k.ins[a].term.num,.string k.ins[a].term.name,.slice A' k.ins[a].term.kids.length c',.int .i64 k.ins[a].to] 52) = wa at *;generalize w6.heap.size = bx at *;go_quiet (fail)
           go_wp2_with fail
           go_roundg (fin k p - (a + 1))
           case measure=>omega
           case rel=>exact ⟨a + 1,ds,nw2,by omega,by omega,rfl,by go_num,rfl,own_below ho2 (below_drewN (Below.refl wa.heap.size wa) nq),HSD.out,HMD.out,by rw [HTM.out];exact HPD.out,hT2.trans (Tch.of_below (below_drewN (Below.refl wa.heap.size wa) nq))⟩
         ·
          obtain rfl : a = fin k p:=by omega
          have hle : ¬ ((fin k p : Nat) : Int) ≤ ((fin k p - 1 : Nat) : Int):=by omega
          have hp2:=HPD.out;rw [← HL9.out,← HTK.out] at hp2;have HP2:=Lib.hid hp2;clear hp2;go_wp2_with fail
          go_roundg (k.procs.length - (p + 1))
          case measure=>omega
          case rel=>exact ⟨p + 1,ds,nw2,by omega,rfl,by go_num,rfl,ho,HSD.out,HP2.out,hb⟩
       ·
        rw [mkd_markL_neg hus] at hcu;have HTK:=Lib.hid (show listN (p + 1) (UsedP k) = listN p (UsedP k) from listN_skip hus);clear hus;go_wp2_with fail
        go_roundg (k.procs.length - (p + 1))
        case measure=>omega
        case rel=>exact ⟨p + 1,cs,nw,by omega,rfl,by go_num,rfl,ho,HS.out,by rw [HTK.out];exact HP.out,hb⟩
      ·
       obtain rfl : p = k.procs.length:=by omega
       go_wp2_with fail
       go_roundg (2 * cs.sum + (if nw then 1 else 0))
       case measure =>
        cases nw
        · rw [(HP.out.no rfl).1];simp
        · have:=HP.out.yes rfl;simp;omega
       case rel=>exact ⟨cs,nw,rfl,rfl,ho,HS.out,fun hf=>by rw [(HP.out.no hf).1];exact (HP.out.no hf).2,hb⟩
end Go.Proofs.YtkgoajnnkimkaaaGreat
namespace Go.Proofs.YtkgoajnnkimkaaaGreat
open Go.ChangeShapes Go.WideShapes Go.ChangeAt Go.RowKit
structure Mu (k : Cd) (es : List (Int × Int)) (bs : List Nat) (D R : Nat → Prop) (ys : List Nat) : Prop where
 len : ys.length = k.ins.length
 done : ∀ a,a < k.ins.length → D a → gt ys a = mustF k es bs a
 rest : ∀ a,a < k.ins.length → R a → gt ys a = 63
section
variable {k : Cd} {es : List (Int × Int)} {bs ys : List Nat} {D R D' R' : Nat → Prop}
theorem Mu.mono (h : Mu k es bs D R ys) (hd : ∀ a,a < k.ins.length → D' a → D a) (hr : ∀ a,a < k.ins.length → R' a → R a) : Mu k es bs D' R' ys :=
 ⟨h.len,fun a ha hD=>h.done a ha (hd a ha hD),fun a ha hR=>h.rest a ha (hr a ha hR)⟩
theorem Mu.put (h : Mu k es bs D R ys) {i y : Nat} (hi : i < k.ins.length) (hy : y = mustF k es bs i) (hd : ∀ a,a < k.ins.length → D' a → a = i ∨ D a) (hr : ∀ a,a < k.ins.length → R' a → a ≠ i ∧ R a) : Mu k es bs D' R' (ys.set i y):=by
 refine ⟨by simp [h.len],fun a ha hD=>?_,fun a ha hR=>?_⟩
 ·
  rw [gt_set (by rw [h.len];exact hi)];split
  · rename_i e;subst e;exact hy
  ·
   rename_i e;rcases hd a ha hD with h1 | h1
   · exact absurd h1.symm e
   · exact h.done a ha h1
 · rw [gt_set (by rw [h.len];exact hi),if_neg (fun e=>(hr a ha hR).1 e.symm)];exact h.rest a ha (hr a ha hR).2
theorem Mu.full (h : Mu k es bs D R ys) (hr : ∀ a,a < k.ins.length → D a ∨ (R a ∧ ¬ UsedP k (procN k a))) : ys = (List.range k.ins.length).map fun a=>mustF k es bs a:=by
 refine gt_ext (by simp [h.len]) fun a ha=>?_;rw [h.len] at ha;rw [show gt ((List.range k.ins.length).map fun a=>mustF k es bs a) a = mustF k es bs a from by simp [gt,ha]];rcases hr a ha with h1 | ⟨h1,h2⟩
 · exact h.done a ha h1
 · rw [h.rest a ha h1,mustF,if_neg h2]
theorem mustF_used {p i : Nat} (hu : UsedP k p) (hp : procN k i = p) : gt (flowN k es p (gt bs p)) i = mustF k es bs i:=by
 rw [mustF,hp,if_pos hu]
end
theorem must_any {B : Nat} (g : Nat) (v : CV) (k : Cd) (w : World) (hr : Right k) (hW : WAt w B g v k) :
  Calls Tryz.prog 116 #[.pointer (some ⟨g,0,none⟩)] w (NewNats w (mustN k)):=by
 have hWf:=hW.full;have hkf:=hWf.code;have hins:=hr.ins;have hpl:=hr.procs;have HR:=Lib.hid hr;have HEL:=Lib.hid hr.entry;have HKT:=Lib.hid (fun W (hb : Below w.heap.size w W)=>hWf.kat.to hb);have HKC:=Lib.hid (fun W (hb : Below w.heap.size w W)=>hkf.below hb);have HW10:=Lib.hid (fun W (hb : Below w.heap.size w W)=>(hWf.below hb).used);have HEF:=Lib.hid (fun W (hb : Below w.heap.size w W)=>effects_any g v k W hr (hWf.below hb));have HET:=Lib.hid (fun A c W B' (es : List (Int × Int)) (hb : Below w.heap.size w W) (he : Rd W B' A (effCells es)) (hes : ∀ e ∈ es,effB e = true) (hel : es.length = k.procs.length)=>entries_any g v k A c es W hr (hWf.below hb) he hes hel);have HEN:=Lib.hid (fun p (hp : p < k.procs.length) W (hb : Below w.heap.size w W)=>(show Calls Tryz.prog 162 #[.agg #[.slice v.gA k.globals.length v.gc, .slice v.lA k.locks.length v.lc, .slice v.pA k.procs.length v.pc, .slice v.eA k.entry.length v.ec, .slice v.iA k.ins.length v.ic],.int .i64 (p : Int)] W fun e w'=>e = .returned (.int .i64 ((fin k p : Nat) : Int)) ∧ Below W.heap.size W w' from by
  have h1:=endOfProc_any v k p W (hkf.below hb) (by omega) (by have:=hr.entry;omega) (by omega);rw [hr.fin_eq p hp] at h1;exact h1))
 have HFL:=Lib.hid (fun (es : List (Int × Int)) (A : Option Addr) (c p held : Nat) B' (hes : ∀ e ∈ es,effB e = true) (hel : es.length = k.procs.length) (hp : p < k.procs.length) (hh : held < 64) W (hb : Below w.heap.size w W) (he : Rd W B' A (effCells es))=>(show Calls Tryz.prog 91 #[.pointer (some ⟨g,0,none⟩),.slice A k.procs.length c,.int .i64 p,.int .i64 held] W fun e w'=>∃ Af cf,e = .returned (.slice Af k.ins.length cf) ∧ w'.ownsRow W.heap.size 3 1 (.slice Af k.ins.length cf) k.ins.length (nv (flowN k es p held)) ∧ Below W.heap.size W w' from by
  have h:=flow_any g v k A c es p held W hr (hWf.below hb) he hes hel hp hh;rw [hel] at h;refine h.mono ?_;rintro e w' ⟨Af,cf,rfl,ho,hb'⟩;rw [flowN_len hr hp] at ho ⊢;exact ⟨Af,cf,rfl,ho,hb'⟩))
 have HBB:=Lib.hid (fun W=>(show Calls Tryz.prog 102 #[.int .i64 (usedS k : Nat)] W (NewNats W (listN k.procs.length (UsedP k))) from by
  have HB:=bitsOf_nats (usedS k) W (two60 hr (setN_lt _ _));rw [show bitsTo (usedS k) 62 = listN k.procs.length (UsedP k) from bitsTo_setN (by omega)] at HB;exact HB))
 have HUS:=Lib.hid (show ∀ p ∈ listN k.procs.length (UsedP k),p < k.procs.length ∧ UsedP k p from fun p h=>mem_listN.1 h);have HUM:=Lib.hid (show ∀ p,p < k.procs.length → UsedP k p → p ∈ listN k.procs.length (UsedP k) from fun p h1 h2=>mem_listN.2 ⟨h1,h2⟩);have hul:=listN_len k.procs.length (UsedP k);have HMN:=Lib.hid (show (List.range k.ins.length).map (fun a=>mustF k (effN k) (entN k (effN k)) a) = mustN k from rfl);have hel : (effN k).length = k.procs.length:=effL_len _ _;clear hr hW hkf hWf
 go_enter Tryz.func116, Tryz.ntmps116
 go_wp2_with fail
 refine (HEF.out _ (Below.refl _ _)).mono ?_;rintro e w1 ⟨⟨Ae,ce,rfl,hoe,hb1⟩,hgl⟩;have hes : ∀ e ∈ effN k,effB e = true:=effL_ok hgl;have HES:=Lib.hid hes;have HLE:=Lib.hid hel;rw [hel] at hoe ⊢;clear hes hel hgl;generalize effN k = es at *;go_wp2_with fail
 refine (HET.out Ae ce w1 _ es hb1 (own_rd hoe) HES.out HLE.out).mono ?_;rintro e w2 ⟨⟨Ab,cb,rfl,hob,hb2⟩,hES⟩;have HS:=Lib.hid hES;have hbl:=HS.out.len;rw [hbl] at hob ⊢;clear hES hbl;have hb02:=below_trans' hb1 hb2;have HTE:=Lib.hid (fun V (h : Below w2.heap.size w2 V)=>((own_rd hoe).below hb2).full.below h);have HTB:=Lib.hid (fun V (h : Below w2.heap.size w2 V)=>(own_rd hob).below h);have HB2:=Lib.hid (fun V (h : Below w2.heap.size w2 V)=>below_trans' hb02 h);clear hoe hob hb1 hb2;generalize entN k es = bs at *;generalize usedS k = un at *;generalize listN k.procs.length (UsedP k) = us at *;obtain ⟨c0,c1,c2,c3,c4⟩:=HKT.out _ hb02;go_wp2_with (at_make;refine make_ints _ rfl _ _ rfl k.ins.length rfl rfl (by omega) ?_;intro w3 hown hb3)
 rw [zeros_nv] at hown;clear c0 c1 c2 c3 c4 hb02;go_loopg [25] k.ins.length (fun l i wr=>∃ (j : Nat) (xs : List Nat),j ≤ k.ins.length ∧ l = k.ins.length - j ∧ i = .int .i64 j ∧ wr.ownsRow w2.heap.size 3 1 (.slice (some ⟨w2.heap.size,0,none⟩) k.ins.length k.ins.length) k.ins.length (nv xs) ∧ xs.length = k.ins.length ∧ (∀ q,q < j → gt xs q = 63) ∧ Below w2.heap.size w2 wr)
 case atStart=>exact ⟨0,_,by omega,by omega,rfl,hown,by simp,fun q h=>by omega,hb3⟩
 case round =>
  clear hown hb3;obtain ⟨j,xs,hj,rfl,rfl,ho,hxl,hfl,hb⟩:=hrel;have HFF:=Lib.hid hfl;clear hfl;by_cases hlt : j < k.ins.length
  ·
   obtain ⟨u,hu⟩:=own_has ho (j:=j) (by omega);have fz:=ho.frozenAt j;have z1 : (0 : Int) ≤ (j : Int):=by omega
   have z2 : (j : Int) < (k.ins.length : Int):=by omega
   go_wp2_with fail
   obtain ⟨s1,s2⟩:=ho.stored j (.int .i64 ((63 : Nat) : Int));rw [nv_set] at s1;go_roundg (k.ins.length - (j + 1))
   case measure=>omega
   case rel=>exact ⟨j + 1,xs.set j 63,by omega,rfl,by go_num,s1,by simp [hxl],fun q hq=>(by
    rw [gt_set (by omega)];split
    · rfl
    · exact HFF.out q (by omega)),hb.grown s2 hb.size (fun q hq=>by cases hq;exact Nat.le_refl _)⟩
  ·
   obtain rfl : j = k.ins.length:=by omega
   have HM0:=Lib.hid (show Mu k es bs (fun a=>procN k a ∈ us.take 0) (fun a=>procN k a ∉ us.take 0) xs from ⟨hxl,fun a ha h=>by simp at h,fun a ha _=>HFF.out a ha⟩);clear hxl HFF;have h10:=HW10.out _ (HB2.out _ hb);go_wp2_with fail
   refine (HBB.out _).mono ?_;rintro e w4 ⟨Au,cu,rfl,hou,hb4⟩;have hX4:=(own_lt ho).2;have ho4:=own_below ho hb4;have hb24:=below_trans' hb hb4;have HOU:=Lib.hid (fun V (h : Tch w2.heap.size w2.heap.size w2.heap.size w4 V)=>own_rd (h.own hou hX4 hX4 hX4));have HBT:=Lib.hid (fun V (h : Tch w2.heap.size w2.heap.size w2.heap.size w4 V)=>hb24.trans (h.below hb24.size (Nat.le_refl _) (Nat.le_refl _) (Nat.le_refl _)));clear hou hb4 hb24 ho hb h10;go_wp2_with fail
   go_loopg [38] us.length (fun l i wr=>∃ (j : Nat) (ys : List Nat),j ≤ us.length ∧ l = us.length - j ∧ i = .int .i64 j ∧ wr.ownsRow w2.heap.size 3 1 (.slice (some ⟨w2.heap.size,0,none⟩) k.ins.length k.ins.length) k.ins.length (nv ys) ∧ Mu k es bs (fun a=>procN k a ∈ us.take j) (fun a=>procN k a ∉ us.take j) ys ∧ Tch w2.heap.size w2.heap.size w2.heap.size w4 wr)
   case atStart=>exact ⟨0,_,by omega,by omega,rfl,ho4,HM0.out,Tch.refl _ _ _ _⟩
   case round =>
    clear ho4 HM0;obtain ⟨j,ys,hj,rfl,rfl,ho,hM,hT⟩:=hrel;have HM:=Lib.hid hM;clear hM;have hb2r:=HBT.out _ hT;have hb:=HB2.out _ hb2r;by_cases hlt : j < us.length
    ·
     obtain ⟨adu,eau,_,hcu⟩:=(HOU.out _ hT).nat hlt;obtain ⟨hpl2,hus⟩:=HUS.out us[j] (List.getElem_mem hlt);have HTK:=Lib.hid (show us.take (j + 1) = us.take j ++ [us[j]] from by rw [List.take_succ_eq_append_getElem hlt]);generalize us[j] = p at *;have HUP:=Lib.hid hus;clear hus;subst eau;obtain ⟨adb,eab,_,hcb⟩:=(HTB.out _ hb2r).nat (j:=p) (by rw [HS.out.len];exact hpl2);subst eab;rw [gt_get (xs:=bs) (by rw [HS.out.len];exact hpl2)] at hcb;have hcl:=HS.out.le p;have hfp:=HR.out.lt p hpl2;have z1 : (0 : Int) ≤ (j : Int):=by omega
     have z2 : (j : Int) < (us.length : Int):=by omega
     have x1 : (0 : Int) ≤ (p : Int):=by omega
     have x2 : (p : Int) < (k.procs.length : Int):=by omega
     have y2 : (p : Int) < (k.entry.length : Int):=by have:=HEL.out;omega
     go_wp2_with fail
     refine (HFL.out es Ae ce p (gt bs p) _ HES.out HLE.out hpl2 hcl _ hb (HTE.out _ hb2r)).mono ?_;rintro e w5 ⟨Af,cf,rfl,hof,hb5⟩;have hX5:=(own_lt ho).2;have ho5:=own_below ho hb5;have hb05:=below_trans' hb hb5;obtain ⟨c0,c1,c2,c3,c4⟩:=HKT.out _ hb05;obtain ⟨ade,ee,hbe,hce⟩:=entry_cell HR.out (HKC.out _ hb05).full hpl2;rw [ee] at c3;clear ee;have HOF:=Lib.hid (fun V (h : Tch w2.heap.size w2.heap.size w2.heap.size w5 V)=>own_rd (h.own hof hX5 hX5 hX5));have HT5:=Lib.hid (hT.trans (Tch.of_below hb5));have HBT5:=Lib.hid (fun V (h : Tch w2.heap.size w2.heap.size w2.heap.size w5 V)=>HB2.out _ (HBT.out _ (HT5.out.trans h)));have HFN:=Lib.hid (show ∀ i,procN k i = p → gt (flowN k es p (gt bs p)) i = mustF k es bs i from fun i hi=>mustF_used HUP.out hi);have HFLN:=Lib.hid (show (flowN k es p (gt bs p)).length = k.ins.length from flowN_len HR.out hpl2);have HM1:=Lib.hid (show Mu k es bs (fun a=>procN k a ∈ us.take j ∨ (procN k a = p ∧ a < ent k p)) (fun a=>procN k a ∉ us.take j ∧ (procN k a = p → ent k p ≤ a)) ys from HM.out.mono (fun a ha h=>h.elim id fun h=>by have:=(HR.out.proc a ha).2.1;rw [h.1] at this;omega) (fun a ha h=>h.1));clear hof hb5 ho hT hb2r hb hcb hcu hb05;generalize flowN k es p (gt bs p) = fl at *;go_wp2_with fail
     clear c0 c1 c2 c3 c4 hce;go_loopg [10] (fin k p - ent k p) (fun l i wr=>∃ (m : Nat) (zs : List Nat),ent k p ≤ m ∧ m ≤ fin k p ∧ l = fin k p - m ∧ i = .int .i64 m ∧ wr.ownsRow w2.heap.size 3 1 (.slice (some ⟨w2.heap.size,0,none⟩) k.ins.length k.ins.length) k.ins.length (nv zs) ∧ Mu k es bs (fun a=>procN k a ∈ us.take j ∨ (procN k a = p ∧ a < m)) (fun a=>procN k a ∉ us.take j ∧ (procN k a = p → m ≤ a)) zs ∧ Tch w2.heap.size w2.heap.size w2.heap.size w5 wr)
     case atStart=>exact ⟨ent k p,ys,by omega,by omega,rfl,rfl,ho5,HM1.out,Tch.refl _ _ _ _⟩
     case round =>
      clear ho5 HM1;obtain ⟨m,zs,hm0,hm,rfl,rfl,ho,hM,hT⟩:=hrel;have HM:=Lib.hid hM;clear hM;have hb:=HBT5.out _ hT;obtain ⟨c0,c1,c2,c3,c4⟩:=HKT.out _ hb;go_wp2_with fail
      refine (HEN.out p hpl2 _ hb).mono ?_;rintro e w6 ⟨rfl,hb6⟩;have ho:=own_below ho hb6;have hT:=hT.trans (Tch.of_below hb6);clear c0 c1 c2 c3 c4 hb6 hb;by_cases hltm : m < fin k p
      ·
       have hal : m < k.ins.length:=by omega
       have hle : (m : Int) < ((fin k p : Nat) : Int):=by omega
       have hpm:=procN_of HR.out hpl2 hm0 hltm;obtain ⟨adf,eaf,_,hcf⟩:=(HOF.out _ hT).nat (j:=m) (by rw [HFLN.out];exact hal);subst eaf;rw [gt_get (xs:=fl) (by rw [HFLN.out];exact hal)] at hcf;obtain ⟨u,hu⟩:=own_has ho (j:=m) (by omega);have fz:=ho.frozenAt m;have z1 : (0 : Int) ≤ (m : Int):=by omega
       have z2 : (m : Int) < (k.ins.length : Int):=by omega
       have HM2:=Lib.hid (show Mu k es bs (fun a=>procN k a ∈ us.take j ∨ (procN k a = p ∧ a < m + 1)) (fun a=>procN k a ∉ us.take j ∧ (procN k a = p → m + 1 ≤ a)) (zs.set m (gt fl m)) from HM.out.put hal (HFN.out m hpm) (fun a ha h=>by
        rcases Nat.lt_trichotomy a m with e | e | e
        · exact .inr (h.imp id fun h=>⟨h.1,e⟩)
        · exact .inl e
        · exact .inr (h.imp id fun h=>by omega)) (fun a ha h=>⟨fun e=>by subst e;have:=h.2 hpm;omega,h.1,fun e=>by have:=h.2 e;omega⟩))
       clear hpm;go_wp2_with fail
       obtain ⟨s1,s2⟩:=ho.stored m (.int .i64 ((gt fl m : Nat) : Int));rw [nv_set] at s1;go_roundg (fin k p - (m + 1))
       case measure=>omega
       case rel=>exact ⟨m + 1,_,by omega,by omega,rfl,by go_num,s1,HM2.out,hT.set (.inl rfl) _⟩
      ·
       obtain rfl : m = fin k p:=by omega
       have hle : ¬ ((fin k p : Nat) : Int) < ((fin k p : Nat) : Int):=by omega
       have HM2:=Lib.hid (show Mu k es bs (fun a=>procN k a ∈ us.take (j + 1)) (fun a=>procN k a ∉ us.take (j + 1)) zs from HM.out.mono (fun a ha h=>by
        rw [HTK.out,List.mem_append,List.mem_singleton] at h;exact h.imp id fun h=>⟨h,by have:=(HR.out.proc a ha).2.2;rw [h] at this;exact this⟩) (fun a ha h=>by
        rw [HTK.out,List.mem_append,List.mem_singleton] at h;exact ⟨fun h1=>h (.inl h1),fun h1=>absurd (.inr h1) h⟩))
       go_wp2_with fail
       go_roundg (us.length - (j + 1))
       case measure=>omega
       case rel=>exact ⟨j + 1,zs,by omega,rfl,by go_num,ho,HM2.out,HT5.out.trans hT⟩
    ·
     obtain rfl : j = us.length:=by omega
     have hm2:=HM.out;rw [List.take_length] at hm2;have hfin:=hm2.full (fun a ha=>by
      by_cases hu : UsedP k (procN k a)
      · exact .inl (HUM.out _ (HR.out.proc a ha).1 hu)
      · exact .inr ⟨fun h=>hu (HUS.out _ h).2,hu⟩)
     have hyl:=hm2.len;have HFI:=Lib.hid (show NewNats w (mustN k) (.returned (.slice (some ⟨w2.heap.size,0,none⟩) k.ins.length k.ins.length)) wr from by
      rw [← HMN.out,← hfin];exact ⟨some ⟨w2.heap.size,0,none⟩,k.ins.length,by rw [hyl],by rw [hyl];exact own_mono ho (by have:=(HB2.out w2 (Below.refl _ _)).size;exact this),hb⟩)
     clear hm2 hfin hyl;go_wp2_with fail
     go_ret
     exact HFI.out
theorem l15Must_any {B L : Nat} (v : CV) (k : Cd) (w : World) (hr : Right k) (hk : CodeAt w B v k) (hcb : CdB L k) (hL : L ≤ 1048576) :
  Calls Tryz.prog 120 #[.agg #[.slice v.gA k.globals.length v.gc, .slice v.lA k.locks.length v.lc, .slice v.pA k.procs.length v.pc, .slice v.eA k.entry.length v.ec, .slice v.iA k.ins.length v.ic]] w (NewNats w (mustN k)):=by
 have hkf:=hk.full;have hbx:=codeBox w v k;have hins:=hr.ins;have hpl:=hr.procs;have HR:=Lib.hid hr;have HEL:=Lib.hid hr.entry;have HKC:=Lib.hid (fun W (hb : Below w.heap.size w W)=>hkf.below hb);have HEF:=Lib.hid (fun W (hb : Below w.heap.size w W)=>l13Effects_any v k W hr (hkf.below hb) hcb hL);have HET:=Lib.hid (fun A c W B' (es : List (Int × Int)) (hb : Below w.heap.size w W) (he : Rd W B' A (effCells es)) (hes : ∀ e ∈ es,effB e = true) (hel : es.length = k.procs.length)=>l15Entries_any v k A c es W hr (hkf.below hb) hcb hL he hes hel);have HEN:=Lib.hid (fun p (hp : p < k.procs.length) W (hb : Below w.heap.size w W)=>l08End_right v k p W hr (hkf.below hb) hcb hL hp);have HUT:=Lib.hid (fun W (hb : Below w.heap.size w W)=>l14Used_any v k W hr (hkf.below hb));have HFL:=Lib.hid (fun (es : List (Int × Int)) (A : Option Addr) (c p held : Nat) B' (hes : ∀ e ∈ es,effB e = true) (hel : es.length = k.procs.length) (hp : p < k.procs.length) (hh : held < 64) W (hb : Below w.heap.size w W) (he : Rd W B' A (effCells es))=>(show Calls Tryz.prog 176 #[.agg #[.slice v.gA k.globals.length v.gc, .slice v.lA k.locks.length v.lc, .slice v.pA k.procs.length v.pc, .slice v.eA k.entry.length v.ec, .slice v.iA k.ins.length v.ic],.slice A k.procs.length c,.int .i64 p,.int .i64 held] W fun e w'=>∃ Af cf,e = .returned (.slice Af k.ins.length cf) ∧ w'.ownsRow W.heap.size 3 1 (.slice Af k.ins.length cf) k.ins.length (nv (flowN k es p held)) ∧ Below W.heap.size W w' from by
  have h:=l13From_any v k A c es p held W hr (hkf.below hb) he hes hel hp hh;rw [hel] at h;refine h.mono ?_;rintro e w' ⟨Af,cf,rfl,ho,hb'⟩;rw [flowN_len hr hp] at ho ⊢;exact ⟨Af,cf,rfl,ho,hb'⟩))
 have HMN:=Lib.hid (show (List.range k.ins.length).map (fun a=>mustF k (effN k) (entN k (effN k)) a) = mustN k from rfl);have hel : (effN k).length = k.procs.length:=effL_len _ _;clear hr hk hkf hcb
 go_enter Tryz.func120, Tryz.ntmps120
 go_wp2_with fail
 generalize w.alloc (.cells #[.slice v.gA k.globals.length v.gc, .slice v.lA k.locks.length v.lc, .slice v.pA k.procs.length v.pc, .slice v.eA k.entry.length v.ec, .slice v.iA k.ins.length v.ic] 28) = W at hbx ⊢;refine (HEF.out _ hbx.1).mono ?_;rintro e w1 ⟨⟨Ae,ce,rfl,hoe,hb1⟩,hgl⟩;have hes : ∀ e ∈ effN k,effB e = true:=effL_ok hgl;have HES:=Lib.hid hes;have HLE:=Lib.hid hel;rw [hel] at hoe ⊢;have hbx1:=hbx.to hb1;obtain ⟨q1,q2,c0,c1,c2,c3,c4⟩:=id hbx1;clear hes hel hgl hbx;generalize effN k = es at *;go_wp2_with fail
 refine (HET.out Ae ce w1 _ es hbx1.1 (own_rd hoe) HES.out HLE.out).mono ?_;rintro e w1a ⟨⟨Ab,cb,rfl,hob,hb1a⟩,hES⟩;have HS:=Lib.hid hES;have hbl:=HS.out.len;rw [hbl] at hob ⊢;have hbxa:=hbx1.to hb1a;clear hES hbl q1 q2 c0 c1 c2 c3 c4;obtain ⟨q1,q2,c0,c1,c2,c3,c4⟩:=id hbxa;generalize entN k es = bs at *;go_wp2_with fail
 refine (HUT.out _ hbxa.1).mono ?_;rintro e w2 ⟨Au,cu,rfl,hou,hb2⟩;rw [markL_len];have hbx2:=hbxa.to hb2;have HTE:=Lib.hid (fun V (h : Below w2.heap.size w2 V)=>((own_rd hoe).below (below_trans' hb1a hb2)).full.below h);have HTB:=Lib.hid (fun V (h : Below w2.heap.size w2 V)=>((own_rd hob).below hb2).full.below h);have HRU:=Lib.hid (fun V (h : Below w2.heap.size w2 V)=>(own_rd hou).below h);have HBX:=Lib.hid (fun V (h : Below w2.heap.size w2 V)=>hbx2.to h);have hw2:=hbx2.2.1;clear q1 q2 c0 c1 c2 c3 c4 hoe hob hb1 hb1a hb2 hou hbx1 hbxa;obtain ⟨q1,q2,c0,c1,c2,c3,c4⟩:=id hbx2;clear hbx2;go_wp2_with (at_make;refine make_ints _ rfl _ _ rfl k.ins.length rfl rfl (by omega) ?_;intro w3 hown hb3)
 rw [zeros_nv] at hown;clear c0 c1 c2 c3 c4 q1 q2;have HM0:=Lib.hid (show Mu k es bs (fun a=>procN k a < 0) (fun _=>False) (List.replicate k.ins.length 0) from ⟨by simp,fun a ha h=>by omega,fun a ha h=>h.elim⟩);go_loopg [7] k.procs.length (fun l i wr=>∃ (p : Nat) (ys : List Nat),p ≤ k.procs.length ∧ l = k.procs.length - p ∧ i = .int .i64 p ∧ wr.ownsRow w2.heap.size 3 1 (.slice (some ⟨w2.heap.size,0,none⟩) k.ins.length k.ins.length) k.ins.length (nv ys) ∧ Mu k es bs (fun a=>procN k a < p) (fun _=>False) ys ∧ Below w2.heap.size w2 wr)
 case atStart=>exact ⟨0,_,by omega,by omega,rfl,hown,HM0.out,hb3⟩
 case round =>
  clear hown hb3 HM0;obtain ⟨p,ys,hj,rfl,rfl,ho,hM,hb⟩:=hrel;have HM:=Lib.hid hM;clear hM;have hbxr:=HBX.out _ hb;obtain ⟨q1,q2,c0,c1,c2,c3,c4⟩:=id hbxr;by_cases hpl2 : p < k.procs.length
  ·
   obtain ⟨adb,eab,_,hcb⟩:=(HTB.out _ hb).nat (j:=p) (by rw [HS.out.len];exact hpl2);subst eab;rw [gt_get (xs:=bs) (by rw [HS.out.len];exact hpl2)] at hcb;have hcl:=HS.out.le p;have hfp:=HR.out.lt p hpl2;have x1 : (0 : Int) ≤ (p : Int):=by omega
   have x2 : (p : Int) < (k.procs.length : Int):=by omega
   have y2 : (p : Int) < (k.entry.length : Int):=by have:=HEL.out;omega
   go_wp2_with fail
   go_still_tail 7,(by kernel_rfl)
   change wpList _ _ _ _ _ wr.drew
   go_wp2_with fail
   refine (HFL.out es Ae ce p (gt bs p) _ HES.out HLE.out hpl2 hcl _ hbxr.1.drew (HTE.out _ hb.drew)).mono ?_;rintro e w5 ⟨Af,cf,rfl,hof,hb5⟩;have hoD : wr.drew.ownsRow w2.heap.size 3 1 (.slice (some ⟨w2.heap.size,0,none⟩) k.ins.length k.ins.length) k.ins.length (nv ys):=ho;have hX5:=(own_lt hoD).2;have ho5:=own_below hoD hb5;have hb05 : Below w2.heap.size w2 w5:=below_trans' hb.drew hb5;have hbx5:=HBX.out _ hb05;clear q1 q2 c0 c1 c2 c3 c4 hcb ho hoD hbxr;obtain ⟨q1,q2,c0,c1,c2,c3,c4⟩:=id hbx5;obtain ⟨ade,ee,hbe,hce⟩:=entry_cell HR.out (HKC.out _ hbx5.1).full hpl2;rw [ee] at c3;clear ee;have HOF:=Lib.hid (fun V (h : Tch w2.heap.size w2.heap.size w2.heap.size w5 V)=>own_rd (h.own hof hX5 hX5 hX5));have HBT5:=Lib.hid (fun V (h : Tch w2.heap.size w2.heap.size w2.heap.size w5 V)=>hb05.trans (h.below hb05.size (Nat.le_refl _) (Nat.le_refl _) (Nat.le_refl _)));have HFN:=Lib.hid (show ∀ i,UsedP k p → procN k i = p → gt (flowN k es p (gt bs p)) i = mustF k es bs i from fun i hu hi=>mustF_used hu hi);have HFLN:=Lib.hid (show (flowN k es p (gt bs p)).length = k.ins.length from flowN_len HR.out hpl2);have HM1:=Lib.hid (show Mu k es bs (fun a=>procN k a < p ∨ (procN k a = p ∧ a < ent k p)) (fun _=>False) ys from HM.out.mono (fun a ha h=>h.elim id fun h=>by have:=(HR.out.proc a ha).2.1;rw [h.1] at this;omega) (fun a ha h=>h));clear hof hb5 hb hb05;generalize flowN k es p (gt bs p) = fl at *;go_wp2_with fail
   clear c0 c1 c2 c3 c4 q1 q2 hce hbx5;go_loopg [9] (fin k p - ent k p) (fun l i wr=>∃ (m : Nat) (zs : List Nat),ent k p ≤ m ∧ m ≤ fin k p ∧ l = fin k p - m ∧ i = .int .i64 m ∧ wr.ownsRow w2.heap.size 3 1 (.slice (some ⟨w2.heap.size,0,none⟩) k.ins.length k.ins.length) k.ins.length (nv zs) ∧ Mu k es bs (fun a=>procN k a < p ∨ (procN k a = p ∧ a < m)) (fun _=>False) zs ∧ Tch w2.heap.size w2.heap.size w2.heap.size w5 wr)
   case atStart=>exact ⟨ent k p,ys,by omega,by omega,rfl,rfl,ho5,HM1.out,Tch.refl _ _ _ _⟩
   case round =>
    clear ho5 HM1;obtain ⟨m,zs,hm0,hm,rfl,rfl,ho,hM,hT⟩:=hrel;have HM:=Lib.hid hM;clear hM;have hbxr:=HBX.out _ (HBT5.out _ hT);obtain ⟨q1,q2,c0,c1,c2,c3,c4⟩:=id hbxr;go_wp2_with fail
    refine (HEN.out p hpl2 _ hbxr.1).mono ?_;rintro e w6 ⟨rfl,hb6⟩;have ho:=own_below ho hb6;have hT:=hT.trans (Tch.of_below hb6);clear c0 c1 c2 c3 c4 q1 q2 hb6 hbxr;by_cases hltm : m < fin k p
    ·
     have hal : m < k.ins.length:=by omega
     have hle : (m : Int) ≤ ((fin k p - 1 : Nat) : Int):=by omega
     have hpm:=procN_of HR.out hpl2 hm0 hltm;obtain ⟨u,hu⟩:=own_has ho (j:=m) (by omega);have fz:=ho.frozenAt m;have z1 : (0 : Int) ≤ (m : Int):=by omega
     have z2 : (m : Int) < (k.ins.length : Int):=by omega
     have s1 : (w6.setCell ⟨w2.heap.size,m,none⟩ (.int .i64 63)).ownsRow w2.heap.size 3 1 (.slice (some ⟨w2.heap.size,0,none⟩) k.ins.length k.ins.length) k.ins.length (nv (zs.set m 63)):=by
      have h1:=(ho.stored m (.int .i64 ((63 : Nat) : Int))).1;rw [nv_set] at h1;exact h1
     have hT1:=hT.set (a:=⟨w2.heap.size,m,none⟩) (.inl rfl) (.int .i64 63);obtain ⟨u1,hu1⟩:=own_has s1 (j:=m) (by omega);have fz1:=s1.frozenAt m;obtain ⟨ad1,ea1,_,hcu⟩:=(HRU.out _ (HBT5.out _ hT1)).mark (j:=p) (by rw [markL_len];exact hpl2);subst ea1;have HPUT:=Lib.hid (fun y (hy : y = mustF k es bs m)=>(show Mu k es bs (fun a=>procN k a < p ∨ (procN k a = p ∧ a < m + 1)) (fun _=>False) (zs.set m y) from HM.out.put hal hy (fun a ha h=>by
      rcases Nat.lt_trichotomy a m with e | e | e
      · exact .inr (h.imp id fun h=>⟨h.1,e⟩)
      · exact .inl e
      · exact .inr (h.imp id fun h=>by omega)) (fun a ha h=>h.elim)))
     by_cases hus : UsedP k p
     ·
      rw [mkd_markL_pos hpl2 hus] at hcu;obtain ⟨adf,eaf,_,hcf⟩:=(HOF.out _ hT1).nat (j:=m) (by rw [HFLN.out];exact hal);subst eaf;rw [gt_get (xs:=fl) (by rw [HFLN.out];exact hal)] at hcf;have HM2:=Lib.hid (HPUT.out _ (HFN.out m hus hpm));obtain ⟨s2,_⟩:=s1.stored m (.int .i64 ((gt fl m : Nat) : Int));rw [nv_set,List.set_set] at s2;have hT2:=hT1.set (a:=⟨w2.heap.size,m,none⟩) (.inl rfl) (.int .i64 ((gt fl m : Nat) : Int));clear hpm hus;go_wp2_with fail
      go_roundg (fin k p - (m + 1))
      case measure=>omega
      case rel=>exact ⟨m + 1,_,by omega,by omega,rfl,by go_num,s2,HM2.out,hT2⟩
     ·
      rw [mkd_markL_neg hus] at hcu;have HM2:=Lib.hid (HPUT.out 63 (by rw [mustF,hpm,if_neg hus]));clear hpm hus;go_wp2_with fail
      go_roundg (fin k p - (m + 1))
      case measure=>omega
      case rel=>exact ⟨m + 1,_,by omega,by omega,rfl,by go_num,s1,HM2.out,hT1⟩
    ·
     obtain rfl : m = fin k p:=by omega
     have hle : ¬ ((fin k p : Nat) : Int) ≤ ((fin k p - 1 : Nat) : Int):=by omega
     have HM2:=Lib.hid (show Mu k es bs (fun a=>procN k a < p + 1) (fun _=>False) zs from HM.out.mono (fun a ha h=>by
      rcases Nat.lt_or_ge (procN k a) p with h1 | h1
      · exact .inl h1
      ·
       have e : procN k a = p:=by omega
       exact .inr ⟨e,by have:=(HR.out.proc a ha).2.2;rw [e] at this;exact this⟩) (fun a ha h=>h))
     have hb:=HBT5.out _ hT;go_wp2_with fail
     go_roundg (k.procs.length - (p + 1))
     case measure=>omega
     case rel=>exact ⟨p + 1,zs,by omega,rfl,by go_num,ho,HM2.out,hb⟩
  ·
   obtain rfl : p = k.procs.length:=by omega
   have hfin:=HM.out.full (fun a ha=>.inl (HR.out.proc a ha).1);have hyl:=HM.out.len;have HFI:=Lib.hid (show NewNats w (mustN k) (.returned (.slice (some ⟨w2.heap.size,0,none⟩) k.ins.length k.ins.length)) wr from by
    rw [← HMN.out,← hfin];exact ⟨some ⟨w2.heap.size,0,none⟩,k.ins.length,by rw [hyl],by rw [hyl];exact own_mono ho (by omega),hbxr.1⟩)
   clear hfin hyl;go_wp2_with fail
   go_ret
   exact HFI.out
end Go.Proofs.YtkgoajnnkimkaaaGreat
namespace Go.Proofs.YtkgoajnnkimkaaaGreat
open Go.ChangeShapes Go.WideShapes Go.ChangeAt Go.RowKit
theorem NewEff.more {w w1 : World} {es fs : List (Int × Int)} {e : Ending} {w' : World} (h : NewEff w1 es e w') (hb : Below w.heap.size w w1) (he : fs = es) : NewEff w fs e w':=by
 subst he;obtain ⟨A,c,e1,ho,hb1⟩:=h;exact ⟨A,c,e1,own_mono ho hb.size,below_trans' hb hb1⟩
end Go.Proofs.YtkgoajnnkimkaaaGreat
namespace Go.Proofs.YtkgoajnnkimkaaaGreat
open Go.ChangeShapes Go.WideShapes Go.ChangeAt Go.RowKit
def Scal (u : Value) : Prop:=(∃ k n,u = .int k n) ∨ ∃ s,u = .string s
theorem scal_slice {A : Option Addr} {n c : Nat} : ¬ Scal (.slice A n c):=by
 rintro (⟨k,m,h⟩ | ⟨s,h⟩) <;> simp at h
structure Mk (lo hi : Nat) (w w' : World) : Prop where
 os : w'.os = w.os
 tape : w'.tape = w.tape
 output : w'.output = w.output
 size : w.heap.size ≤ w'.heap.size
 block : ∀ b,b < w.heap.size → b < lo ∨ hi ≤ b → w'.heap[b]? = w.heap[b]?
 cells : ∀ (a : Addr) u,(High w lo).cell? a = some u → a.block < hi → ∃ u',(High w' lo).cell? a = some u' ∧ (u' = u ∨ (Scal u ∧ Scal u'))
section
variable {lo hi : Nat} {w w1 w2 : World}
theorem Mk.refl (lo hi : Nat) (w : World) : Mk lo hi w w:=⟨rfl,rfl,rfl,Nat.le_refl _,fun _ _ _=>rfl,fun a u h _=>⟨u,h,.inl rfl⟩⟩
theorem Mk.trans (h : Mk lo hi w w1) (k : Mk lo hi w1 w2) : Mk lo hi w w2:=by
 refine ⟨k.os.trans h.os,k.tape.trans h.tape,k.output.trans h.output,Nat.le_trans h.size k.size,fun b hb hr=>(k.block b (Nat.lt_of_lt_of_le hb h.size) hr).trans (h.block b hb hr),fun a u hu ha=>?_⟩;obtain ⟨u1,h1,h2⟩:=h.cells a u hu ha;obtain ⟨u2,h3,h4⟩:=k.cells a u1 h1 ha;refine ⟨u2,h3,?_⟩;rcases h2 with rfl | ⟨h5,h6⟩
 · exact h4
 ·
  rcases h4 with rfl | ⟨h7,h8⟩
  · exact .inr ⟨h5,h6⟩
  · exact .inr ⟨h5,h8⟩
theorem Mk.below (hb : Below w.heap.size w w1) : Mk lo hi w w1 :=
 ⟨hb.os,hb.tape,hb.output,hb.size,fun b h _=>hb.block b h,fun a u h _=>⟨u,high_below (Nat.le_refl _) hb a u h,.inl rfl⟩⟩
theorem Mk.set {a : Addr} {u x : Value} (h : (High w lo).cell? a = some u) (ha : a.block < hi) (hu : Scal u) (hx : Scal x) : Mk lo hi w (w.setCell a x):=by
 have hlo:=high_le h;refine ⟨rfl,rfl,rfl,by simp,fun b _ hr=>Below.heap_setCell w a x b (by omega),fun b y hy hb=>?_⟩;obtain ⟨h1,h2,c,t,h3⟩:=high_some.1 hy;have hblk : ∃ c t,(w.setCell a x).heap[b.block]? = some (.cells c t (0,0)):=by
  by_cases e : b.block = a.block
  · refine ⟨if a.spot.isSome then c else c.setIfInBounds a.off x,t,?_⟩;unfold World.setCell;simp only [Array.getElem?_modify];rw [if_pos e.symm,h3];rfl
  · exact ⟨c,t,(Below.heap_setCell w a x b.block e).trans h3⟩
 by_cases e : b = a
 · subst e;refine ⟨x,high_some.2 ⟨h1,World.cell?_setCell_same w b x h2,hblk⟩,.inr ⟨?_,hx⟩⟩;rw [h] at hy;injection hy with hy;subst hy;exact hu
 · refine ⟨y,high_some.2 ⟨h1,(World.cell?_setCell_other w a b x fun h=>e h.symm).trans h2,hblk⟩,.inl rfl⟩
theorem Mk.slice (m : Mk lo hi w w1) {a : Addr} {A : Option Addr} {n c : Nat} (h : (High w lo).cell? a = some (.slice A n c)) (ha : a.block < hi) : (High w1 lo).cell? a = some (.slice A n c):=by
 obtain ⟨u',h1,h2⟩:=m.cells a _ h ha;rcases h2 with rfl | ⟨h2,_⟩
 · exact h1
 · exact absurd h2 scal_slice
theorem Mk.own (m : Mk lo hi w w1) {base : Nat} {t : TypeId} {size n : Nat} {v : Value} {xs : List Value} (ho : w.ownsRow base t size v n xs) (hb : hi ≤ base) : w1.ownsRow base t size v n xs:=by
 refine ⟨ho.1,?_⟩;rcases ho.2 with h0 | ⟨g,cap,cur,e,hg,hh,r⟩
 · exact .inl h0
 · exact .inr ⟨g,cap,cur,e,hg,(m.block g (Array.getElem?_eq_some_iff.1 hh).1 (.inr (by omega))).trans hh,r⟩
theorem Mk.low (m : Mk lo hi w w1) (hl : lo ≤ w.heap.size) : Below lo w w1:=⟨m.os,m.tape,m.output,m.size,fun b hb=>m.block b (by omega) (.inl hb)⟩
end
end Go.Proofs.YtkgoajnnkimkaaaGreat
namespace Go.Proofs.YtkgoajnnkimkaaaGreat
open Go.ChangeShapes Go.WideShapes Go.ChangeAt Go.RowKit
theorem KAt.mk {lo hi : Nat} {W W' : World} {g : Nat} {v : CV} {k : Cd} (h : KAt W g v k) (m : Mk lo hi W W') (hg : hi ≤ g) : KAt W' g v k:=by
 have hl : g < W.heap.size:=World.block_lt_of_cell? W _ h.1;have e : ∀ j,W'.cell? ⟨g,j,none⟩ = W.cell? ⟨g,j,none⟩:=fun j=>World.cell?_of_block (w:=W) (m.block g hl (.inr hg));obtain ⟨c0,c1,c2,c3,c4⟩:=h;exact ⟨(e 0).trans c0,(e 1).trans c1,(e 2).trans c2,(e 3).trans c3,(e 4).trans c4⟩
theorem CodeBox.at {w W W' : World} {v : CV} {k : Cd} {B : Nat} (h : CodeBox w v k W) (hb : Below B W W') (hB : w.heap.size < B) : CodeBox w v k W':=by
 obtain ⟨h1,h2,c0,c1,c2,c3,c4⟩:=h;have e : ∀ j,W'.cell? ⟨w.heap.size,j,none⟩ = W.cell? ⟨w.heap.size,j,none⟩:=fun j=>hb.cell (p:=⟨w.heap.size,j,none⟩) hB;exact ⟨h1.trans (hb.mono (by omega)),Nat.lt_of_lt_of_le h2 hb.size,(e 0).trans c0,(e 1).trans c1,(e 2).trans c2,(e 3).trans c3,(e 4).trans c4⟩
end Go.Proofs.YtkgoajnnkimkaaaGreat
namespace Go.Proofs.YtkgoajnnkimkaaaGreat
open Go.ChangeShapes Go.WideShapes Go.ChangeAt Go.RowKit
structure Tt where
 a : Nat
 g : Nat
 w : Bool
 h : Nat
def tCells : List Tt → List Value
 | []=>[]
 | t :: r=>.int .i64 t.a :: .int .i64 t.g :: .bool t.w :: .int .i64 t.h :: tCells r
theorem tCells_len (ts : List Tt) : (tCells ts).length = ts.length * 4:=by
 induction ts with
 | nil=>rfl
 | cons t r ih=>simp [tCells,ih];omega
theorem tCells_append (xs ys : List Tt) : tCells (xs ++ ys) = tCells xs ++ tCells ys:=by
 induction xs with
 | nil=>rfl
 | cons t r ih=>simp [tCells,ih]
theorem tCells_one (ts : List Tt) : ∀ u ∈ tCells ts,u.oneCell' = true:=by
 induction ts with
 | nil=>simp [tCells]
 | cons t r ih =>
  intro u hu;simp only [tCells,List.mem_cons] at hu;rcases hu with rfl | rfl | rfl | rfl | hu
  · rfl
  · rfl
  · rfl
  · rfl
  · exact ih u hu
def readsAt (k : Cd) (a : Nat) : List ByteArray:=((k.ins[a]?).map fun x=>readsOf x.term).getD []
def readsB (k : Cd) (a g : Nat) : Bool:=((k.globals[g]?).map fun n=>decide (n ∈ readsAt k a)).getD false
def touchF (k : Cd) (a h g : Nat) : List Tt:=(if readsB k a g = true then [⟨a,g,false,h⟩] else []) ++ (if opN k a = 1 ∧ argN k a = g then [⟨a,g,true,h⟩] else [])
def touchP (k : Cd) (a h j : Nat) : List Tt:=(List.range j).flatMap (touchF k a h)
theorem touchP_snoc (k : Cd) (a h j : Nat) : touchP k a h (j + 1) = touchP k a h j ++ touchF k a h j:=by simp [touchP,List.range_succ]
def touchL (k : Cd) (a h : Nat) : List Tt:=if opN k a = 1 ∨ opN k a = 2 then touchP k a h k.globals.length else []
theorem touchF_len (k : Cd) (a h g : Nat) : (touchF k a h g).length ≤ 2:=by
 unfold touchF;split <;> split <;> simp
theorem touchP_len (k : Cd) (a h j : Nat) : (touchP k a h j).length ≤ 2 * j:=by
 induction j with
 | zero=>simp [touchP]
 | succ j ih=>rw [touchP_snoc,List.length_append];have:=touchF_len k a h j;omega
theorem touchL_len (k : Cd) (a h : Nat) : (touchL k a h).length ≤ 2 * k.globals.length:=by
 unfold touchL;split
 · exact touchP_len _ _ _ _
 · simp
def NewT (w : World) (ts : List Tt) (e : Ending) (w' : World) : Prop:=NewRow w 66 4 ts.length (tCells ts) e w'
theorem NewT.more {w w1 : World} {ts us : List Tt} {e : Ending} {w' : World} (h : NewT w1 ts e w') (hb : Below w.heap.size w w1) (he : us = ts) : NewT w us e w':=by
 subst he;obtain ⟨A,c,e1,ho,hb1⟩:=h;exact ⟨A,c,e1,own_mono ho hb.size,below_trans' hb hb1⟩
theorem info_touch : (Tryz.prog.info? 66).map (fun i=>(i.zero,i.size,i.bytes)) = some (some (.agg #[.int .i64 0,.int .i64 0,.bool false,.int .i64 0]),4,32):=by kernel_rfl
section
variable (w : World) {ops : Array Oper} {rest : List Oper} {o : Oper} {a : Act} {Q : Exit → Act → World → Prop}
theorem append_touch {wr : World} (t : Tt) (hgd : o.guard = none) (s x : Operand) (ho : o.op = .call { callee := .builtin .append, args := #[s, x], argTypes := #[62, 62] })
  {base : Nat} {v : Value} {n : Nat} {ts : List Tt} (hown : wr.ownsRow base 66 4 v n (tCells ts)) (hs : a.eval s = v) (hx : a.eval x = .slice (some ⟨wr.heap.size,0,none⟩) 1 1)
  (hn : n ≤ 1099511627775) (hbase : base ≤ wr.heap.size)
  (hK : ∀ A c w',w'.ownsRow base 66 4 (.slice A (n + 1) c) (n + 1) (tCells (ts ++ [t])) → wr.grownBy w' v.ownBlock → ((Value.slice A (n + 1) c).ownBlock = v.ownBlock ∨ (Value.slice A (n + 1) c).ownBlock = some (wr.heap.size + 1)) →
   wpList Tryz.prog ops Q rest (a.put o.dst (.slice A (n + 1) c)) w') : wpList Tryz.prog ops Q (o :: rest) a (wr.alloc (.cells #[.int .i64 t.a,.int .i64 t.g,.bool t.w,.int .i64 t.h] 66)) :=
 append_cells Tryz.underlying62 info_touch rfl (by omega) (by omega) hgd s x ho [.int .i64 t.a,.int .i64 t.g,.bool t.w,.int .i64 t.h] hown hs hx rfl (by simp [Value.oneCell']) hn hbase
  fun A c w' h1 h2 h3=>hK A c w' (by rw [tCells_append];exact h1) h2 h3
end
theorem Tch.app {g : Nat} {w0 wr w' : World} {row : Option Nat} (h : Tch g g g w0 wr) (hg : wr.grownBy w' row) (hr : ∀ b,row = some b → b = g ∨ w0.heap.size ≤ b) : Tch g g g w0 w':=by
 refine ⟨hg.os.trans h.os,hg.tape.trans h.tape,hg.output.trans h.output,Nat.le_trans h.size hg.size,fun b hb h1 h2 h3=>?_⟩;refine (hg.block b (Nat.lt_of_lt_of_le hb h.size) fun e=>?_).trans (h.block b hb h1 h2 h3);rcases hr b e.symm with e | e
 · exact h1 e
 · omega
def OBk (ob lo : Nat) (v : Value) : Prop:=∀ b,v.ownBlock = some b → b = ob ∨ lo ≤ b
theorem OBk.app {ob lo : Nat} {v v' : Value} {wr : World} (h : OBk ob lo v) (hv : v'.ownBlock = v.ownBlock ∨ v'.ownBlock = some (wr.heap.size + 1)) (hl : lo ≤ wr.heap.size) : OBk ob lo v':=by
 intro b hb;rcases hv with e | e
 · exact h b (e.symm.trans hb)
 · rw [e] at hb;injection hb with hb;exact .inr (by omega)
theorem touchesIn_any {B L : Nat} (v : CV) (k : Cd) (a h : Nat) (w : World) (hr : Right k) (hk : CodeAt w B v k) (hcb : CdB L k) (hL : L ≤ 1048576) (ha : a < k.ins.length) :
  Calls Tryz.prog 185 #[.agg #[.slice v.gA k.globals.length v.gc, .slice v.lA k.locks.length v.lc, .slice v.pA k.procs.length v.pc, .slice v.eA k.entry.length v.ec, .slice v.iA k.ins.length v.ic],.int .i64 a,.int .i64 h] w (NewT w (touchL k a h)):=by
 have hkf:=hk.full;have hbx:=codeBox w v k;have hins:=hr.ins;have hgl:=hr.globals;obtain ⟨ai,A',c',eA,hbi,k0,k1,k2,k3,k4,k5,k6,kkid⟩:=hkf.full.i.get ha;rw [opN_eq ha] at k0;rw [argN_eq hr ha] at k1;have HTB:=Lib.hid ((hcb.insB _ (List.getElem_mem ha)).term);have hkid:=kkid.full;have HRD:=Lib.hid (fun W (hb : Below w.heap.size w W)=>readsOf_i k.ins[a].term A' c' W (hkid.below hb) HTB.out (by omega));have HRA:=Lib.hid (show readsAt k a = readsOf k.ins[a].term from by simp [readsAt,ha]);have hrl:=readsF_len6 k.ins[a].term;have HRL:=Lib.hid hrl;have HGC:=Lib.hid (fun W (hb : Below w.heap.size w W)=>(hkf.below hb).full.g);have x1 : (0 : Int) ≤ (a : Int):=by omega
 have x2 : (a : Int) < (k.ins.length : Int):=by omega
 obtain ⟨gA,lA,pA,eA0,iA,gc,lc,pc,ec,ic⟩:=v;dsimp only at *;subst eA;by_cases h12 : opN k a = 1 ∨ opN k a = 2
 ·
  have HTL:=Lib.hid (show touchL k a h = touchP k a h k.globals.length from by unfold touchL;rw [if_pos h12]);by_cases h1 : opN k a = 1
  ·
   rw [h1] at k0;have HOP:=Lib.hid h1;clear h12 h1;clear hkf kkid hk hcb
   go_enter Tryz.func185, Tryz.ntmps185
   have b1:=below_alloc0 w (.cells #[.slice gA k.globals.length gc,.slice lA k.locks.length lc,.slice pA k.procs.length pc,.slice eA0 k.entry.length ec,.slice (some ai) k.ins.length ic] 28);have b2:=below_alloc0 (w.alloc (.cells #[.slice gA k.globals.length gc,.slice lA k.locks.length lc,.slice pA k.procs.length pc,.slice eA0 k.entry.length ec,.slice (some ai) k.ins.length ic] 28)) (.cells #[.int .i64 1,.int .i64 (argN k a),.int .i64 k.ins[a].term.kind,.int .i64 k.ins[a].term.num,.string k.ins[a].term.name,.slice A' k.ins[a].term.kids.length c',.int .i64 k.ins[a].to] 52);obtain ⟨q1,q2,c0,c1,c2,c3,c4⟩:=id hbx;have kk0:=cell_below b1 k0;have kk1:=cell_below b1 k1;have kk2:=cell_below b1 k2;have kk3:=cell_below b1 k3;have kk4:=cell_below b1 k4;have kk5:=cell_below b1 k5;have kk6:=cell_below b1 k6;have o0:=box_cell (w.alloc (.cells #[.slice gA k.globals.length gc,.slice lA k.locks.length lc,.slice pA k.procs.length pc,.slice eA0 k.entry.length ec,.slice (some ai) k.ins.length ic] 28)) #[.int .i64 1,.int .i64 (argN k a),.int .i64 k.ins[a].term.kind,.int .i64 k.ins[a].term.num,.string k.ins[a].term.name,.slice A' k.ins[a].term.kids.length c',.int .i64 k.ins[a].to] 52 0 rfl;have o1:=box_cell (w.alloc (.cells #[.slice gA k.globals.length gc,.slice lA k.locks.length lc,.slice pA k.procs.length pc,.slice eA0 k.entry.length ec,.slice (some ai) k.ins.length ic] 28)) #[.int .i64 1,.int .i64 (argN k a),.int .i64 k.ins[a].term.kind,.int .i64 k.ins[a].term.num,.string k.ins[a].term.name,.slice A' k.ins[a].term.kids.length c',.int .i64 k.ins[a].to] 52 1 rfl;go_wp2_with fail
   have h0w2:=below_trans' b1 b2;refine (HRD.out _ h0w2).mono ?_;rintro e w2 ⟨Ar,cr,rfl,hor,hb2⟩;have h02:=below_trans' h0w2 hb2;have hbx2:=(hbx.to b2).to hb2;have o02:=cell_below hb2 o0;have o12:=cell_below hb2 o1;have hobx : ((w.alloc (.cells #[.slice gA k.globals.length gc,.slice lA k.locks.length lc,.slice pA k.procs.length pc,.slice eA0 k.entry.length ec,.slice (some ai) k.ins.length ic] 28))).heap.size < w2.heap.size:=Nat.lt_of_lt_of_le (World.block_lt_of_cell? _ _ o0) hb2.size;rw [show ((w.alloc (.cells #[.slice gA k.globals.length gc,.slice lA k.locks.length lc,.slice pA k.procs.length pc,.slice eA0 k.entry.length ec,.slice (some ai) k.ins.length ic] 28))).heap.size = w.heap.size + 1 from by simp] at o02 o12 hobx;have HCN:=Lib.hid (fun nm V (hb : Below w2.heap.size w2 V)=>sContains_any Ar cr (readsOf k.ins[a].term) nm V ((own_rd hor).below hb) (by omega));have HO0:=Lib.hid (fun V (hb : Below w2.heap.size w2 V)=>cell_below hb o02);have HO1:=Lib.hid (fun V (hb : Below w2.heap.size w2 V)=>cell_below hb o12);have HGL:=Lib.hid (fun V (hb : Below w2.heap.size w2 V)=>HGC.out _ (below_trans' h02 hb));obtain ⟨q1',q2',d0,d1,d2,d3,d4⟩:=id hbx2;clear b1 b2 kk0 kk1 kk2 kk3 kk4 kk5 kk6 o0 o1 c0 c1 c2 c3 c4 q1 q2 k0 k1 k2 k3 k4 k5 k6 hor hb2 h0w2 hkid ;go_wp2_with fail
   clear d0 d1 d2 d3 d4 q1' q2';have HP0:=Lib.hid (show touchP k a h 0 = [] from rfl);go_loopg [9,31] k.globals.length (fun l out i wr=>∃ j : Nat,j ≤ k.globals.length ∧ l = k.globals.length - j ∧ i = .int .i64 j ∧ wr.ownsRow w2.heap.size 66 4 out (touchP k a h j).length (tCells (touchP k a h j)) ∧ Below w2.heap.size w2 wr)
   case atStart=>exact ⟨0,by omega,by omega,rfl,World.ownsRow_nil _ _ _ _,Below.refl _ _⟩
   case round =>
    obtain ⟨j,hj,rfl,rfl,ho,hb⟩:=hrel;obtain ⟨co,Ao,rfl⟩ : ∃ co Ao,_:=by
     obtain ⟨Ao,co,e⟩:=own_form ho;exact ⟨co,Ao,e⟩
    have hpl:=touchP_len k a h j;have hsz:=hb.size;have o0:=HO0.out _ hb;have o1:=HO1.out _ hb;by_cases hlt : j < k.globals.length
    ·
     have hgx:=HGL.out _ hb;obtain ⟨adg,eg,_,hcg⟩:=hgx j (sv k.globals[j]) (by simp [hlt]);subst eg;have z1 : (0 : Int) ≤ (j : Int):=by omega
     have z2 : (j : Int) < (k.globals.length : Int):=by omega
     have HRB:=Lib.hid (show readsB k a j = decide (k.globals[j] ∈ readsOf k.ins[a].term) from by simp [readsB,hlt,HRA.out]);have hcn:=HCN.out k.globals[j] wr hb;rw [← HRB.out] at hcn;have HCNJ:=Lib.hid hcn;clear hcn;generalize k.globals[j] = nm at *;cases hrb : readsB k a j
     ·
      have hcn:=HCNJ.out;rw [hrb] at hcn;have hcn:=Lib.hid hcn;by_cases hag : argN k a = j
      rotate_left
      ·
       have hag2 : (((argN k a : Nat) : Int) == (j : Int)) = false:=by rw [beq_eq_false_iff_ne];omega
       have HT2:=Lib.hid (show touchP k a h (j + 1) = touchP k a h j ++ [] from by have hop:=HOP.out;rw [touchP_snoc];simp [touchF,hrb,hop,hag]);clear hrb HCNJ HRB hag;go_wp2_with fail
       refine hcn.out.mono ?_;rintro e w3 ⟨rfl,rfl⟩;go_wp2_with fail
       go_roundg (k.globals.length - (j + 1))
       case measure=>omega
       case rel=>exact ⟨j + 1,by omega,rfl,by go_num,by rw [HT2.out,List.append_nil];exact ho,hb⟩
      ·
       have hag2 : (((argN k a : Nat) : Int) == (j : Int)) = true:=by rw [beq_iff_eq];omega
       have HT2:=Lib.hid (show touchP k a h (j + 1) = touchP k a h j ++ [⟨a,j,true,h⟩] from by have hop:=HOP.out;rw [touchP_snoc];simp [touchF,hrb,hop,hag]);clear hrb HCNJ HRB hag;go_wp2_with fail
       refine hcn.out.mono ?_;rintro e w3 ⟨rfl,rfl⟩;go_wp2_with (at_builtin;first | (refine append_touch ⟨a,j,true,h⟩ rfl _ _ rfl ho rfl rfl (by omega) hsz ?_;intro A2 c2 w2x ho2 hg2 hv2;have hb2:=below_append hb ho hg2 hsz (Nat.le_refl _);have hsz2:=hb2.size;have o02:=HO0.out _ hb2;have o12:=HO1.out _ hb2))
       go_roundg (k.globals.length - (j + 1))
       case measure=>omega
       case rel=>exact ⟨j + 1,by omega,rfl,by go_num,by rw [HT2.out,List.length_append];exact ho2,hb2⟩
     ·
      have hcn:=HCNJ.out;rw [hrb] at hcn;have hcn:=Lib.hid hcn;by_cases hag : argN k a = j
      rotate_left
      ·
       have hag2 : (((argN k a : Nat) : Int) == (j : Int)) = false:=by rw [beq_eq_false_iff_ne];omega
       have HT2:=Lib.hid (show touchP k a h (j + 1) = touchP k a h j ++ [⟨a,j,false,h⟩] from by have hop:=HOP.out;rw [touchP_snoc];simp [touchF,hrb,hop,hag]);clear hrb HCNJ HRB hag;go_wp2_with fail
       refine hcn.out.mono ?_;rintro e w3 ⟨rfl,rfl⟩;go_wp2_with (at_builtin;first | (refine append_touch ⟨a,j,false,h⟩ rfl _ _ rfl ho rfl rfl (by omega) hsz ?_;intro A2 c2 w2x ho2 hg2 hv2;have hb2:=below_append hb ho hg2 hsz (Nat.le_refl _);have hsz2:=hb2.size;have o02:=HO0.out _ hb2;have o12:=HO1.out _ hb2))
       go_roundg (k.globals.length - (j + 1))
       case measure=>omega
       case rel=>exact ⟨j + 1,by omega,rfl,by go_num,by rw [HT2.out,List.length_append];exact ho2,hb2⟩
      ·
       have hag2 : (((argN k a : Nat) : Int) == (j : Int)) = true:=by rw [beq_iff_eq];omega
       have HT2:=Lib.hid (show touchP k a h (j + 1) = touchP k a h j ++ [⟨a,j,false,h⟩,⟨a,j,true,h⟩] from by have hop:=HOP.out;rw [touchP_snoc];simp [touchF,hrb,hop,hag]);clear hrb HCNJ HRB hag;go_wp2_with fail
       refine hcn.out.mono ?_;rintro e w3 ⟨rfl,rfl⟩;go_wp2_with (at_builtin;first | (refine append_touch ⟨a,j,false,h⟩ rfl _ _ rfl ho rfl rfl (by omega) hsz ?_;intro A2 c2 w2x ho2 hg2 hv2;have hb2:=below_append hb ho hg2 hsz (Nat.le_refl _);have hsz2:=hb2.size;have o02:=HO0.out _ hb2;have o12:=HO1.out _ hb2) | (refine append_touch ⟨a,j,true,h⟩ rfl _ _ rfl ho2 rfl rfl (by omega) hsz2 ?_;intro A3 c3 w3x ho3 hg3 hv3;have hb3:=below_append hb2 ho2 hg3 hsz2 (Nat.le_refl _);have hsz3:=hb3.size;have o03:=HO0.out _ hb3;have o13:=HO1.out _ hb3))
       go_roundg (k.globals.length - (j + 1))
       case measure=>omega
       case rel=>exact ⟨j + 1,by omega,rfl,by go_num,by rw [HT2.out,List.length_append,show [(⟨a,j,false,h⟩ : Tt),⟨a,j,true,h⟩] = [⟨a,j,false,h⟩] ++ [⟨a,j,true,h⟩] from rfl,← List.append_assoc];exact ho3,hb3⟩
    ·
     obtain rfl : j = k.globals.length:=by omega
     have HFI:=Lib.hid (show NewT w (touchL k a h) (.returned (.slice Ao (touchP k a h k.globals.length).length co)) wr from by
      rw [HTL.out];exact ⟨Ao,co,rfl,own_mono ho h02.size,below_trans' h02 hb⟩)
     go_wp2_with fail
     go_ret
     exact HFI.out
  ·
   have h2 : opN k a = 2:=h12.resolve_left h1;rw [h2] at k0;have HOP:=Lib.hid h2;clear h12 h1 h2;clear hkf kkid hk hcb
   go_enter Tryz.func185, Tryz.ntmps185
   have b1:=below_alloc0 w (.cells #[.slice gA k.globals.length gc,.slice lA k.locks.length lc,.slice pA k.procs.length pc,.slice eA0 k.entry.length ec,.slice (some ai) k.ins.length ic] 28);have b2:=below_alloc0 (w.alloc (.cells #[.slice gA k.globals.length gc,.slice lA k.locks.length lc,.slice pA k.procs.length pc,.slice eA0 k.entry.length ec,.slice (some ai) k.ins.length ic] 28)) (.cells #[.int .i64 2,.int .i64 (argN k a),.int .i64 k.ins[a].term.kind,.int .i64 k.ins[a].term.num,.string k.ins[a].term.name,.slice A' k.ins[a].term.kids.length c',.int .i64 k.ins[a].to] 52);obtain ⟨q1,q2,c0,c1,c2,c3,c4⟩:=id hbx;have kk0:=cell_below b1 k0;have kk1:=cell_below b1 k1;have kk2:=cell_below b1 k2;have kk3:=cell_below b1 k3;have kk4:=cell_below b1 k4;have kk5:=cell_below b1 k5;have kk6:=cell_below b1 k6;have o0:=box_cell (w.alloc (.cells #[.slice gA k.globals.length gc,.slice lA k.locks.length lc,.slice pA k.procs.length pc,.slice eA0 k.entry.length ec,.slice (some ai) k.ins.length ic] 28)) #[.int .i64 2,.int .i64 (argN k a),.int .i64 k.ins[a].term.kind,.int .i64 k.ins[a].term.num,.string k.ins[a].term.name,.slice A' k.ins[a].term.kids.length c',.int .i64 k.ins[a].to] 52 0 rfl;have o1:=box_cell (w.alloc (.cells #[.slice gA k.globals.length gc,.slice lA k.locks.length lc,.slice pA k.procs.length pc,.slice eA0 k.entry.length ec,.slice (some ai) k.ins.length ic] 28)) #[.int .i64 2,.int .i64 (argN k a),.int .i64 k.ins[a].term.kind,.int .i64 k.ins[a].term.num,.string k.ins[a].term.name,.slice A' k.ins[a].term.kids.length c',.int .i64 k.ins[a].to] 52 1 rfl;go_wp2_with fail
   have h0w2:=below_trans' b1 b2;refine (HRD.out _ h0w2).mono ?_;rintro e w2 ⟨Ar,cr,rfl,hor,hb2⟩;have h02:=below_trans' h0w2 hb2;have hbx2:=(hbx.to b2).to hb2;have o02:=cell_below hb2 o0;have o12:=cell_below hb2 o1;have hobx : ((w.alloc (.cells #[.slice gA k.globals.length gc,.slice lA k.locks.length lc,.slice pA k.procs.length pc,.slice eA0 k.entry.length ec,.slice (some ai) k.ins.length ic] 28))).heap.size < w2.heap.size:=Nat.lt_of_lt_of_le (World.block_lt_of_cell? _ _ o0) hb2.size;rw [show ((w.alloc (.cells #[.slice gA k.globals.length gc,.slice lA k.locks.length lc,.slice pA k.procs.length pc,.slice eA0 k.entry.length ec,.slice (some ai) k.ins.length ic] 28))).heap.size = w.heap.size + 1 from by simp] at o02 o12 hobx;have HCN:=Lib.hid (fun nm V (hb : Below w2.heap.size w2 V)=>sContains_any Ar cr (readsOf k.ins[a].term) nm V ((own_rd hor).below hb) (by omega));have HO0:=Lib.hid (fun V (hb : Below w2.heap.size w2 V)=>cell_below hb o02);have HO1:=Lib.hid (fun V (hb : Below w2.heap.size w2 V)=>cell_below hb o12);have HGL:=Lib.hid (fun V (hb : Below w2.heap.size w2 V)=>HGC.out _ (below_trans' h02 hb));obtain ⟨q1',q2',d0,d1,d2,d3,d4⟩:=id hbx2;clear b1 b2 kk0 kk1 kk2 kk3 kk4 kk5 kk6 o0 o1 c0 c1 c2 c3 c4 q1 q2 k0 k1 k2 k3 k4 k5 k6 hor hb2 h0w2 hkid ;go_wp2_with fail
   clear d0 d1 d2 d3 d4 q1' q2';have HP0:=Lib.hid (show touchP k a h 0 = [] from rfl);go_loopg [9,31] k.globals.length (fun l out i wr=>∃ j : Nat,j ≤ k.globals.length ∧ l = k.globals.length - j ∧ i = .int .i64 j ∧ wr.ownsRow w2.heap.size 66 4 out (touchP k a h j).length (tCells (touchP k a h j)) ∧ Below w2.heap.size w2 wr)
   case atStart=>exact ⟨0,by omega,by omega,rfl,World.ownsRow_nil _ _ _ _,Below.refl _ _⟩
   case round =>
    obtain ⟨j,hj,rfl,rfl,ho,hb⟩:=hrel;obtain ⟨co,Ao,rfl⟩ : ∃ co Ao,_:=by
     obtain ⟨Ao,co,e⟩:=own_form ho;exact ⟨co,Ao,e⟩
    have hpl:=touchP_len k a h j;have hsz:=hb.size;have o0:=HO0.out _ hb;have o1:=HO1.out _ hb;by_cases hlt : j < k.globals.length
    ·
     have hgx:=HGL.out _ hb;obtain ⟨adg,eg,_,hcg⟩:=hgx j (sv k.globals[j]) (by simp [hlt]);subst eg;have z1 : (0 : Int) ≤ (j : Int):=by omega
     have z2 : (j : Int) < (k.globals.length : Int):=by omega
     have HRB:=Lib.hid (show readsB k a j = decide (k.globals[j] ∈ readsOf k.ins[a].term) from by simp [readsB,hlt,HRA.out]);have hcn:=HCN.out k.globals[j] wr hb;rw [← HRB.out] at hcn;have HCNJ:=Lib.hid hcn;clear hcn;generalize k.globals[j] = nm at *;cases hrb : readsB k a j
     ·
      have hcn:=HCNJ.out;rw [hrb] at hcn;have hcn:=Lib.hid hcn
      ·
       skip
       have HT2:=Lib.hid (show touchP k a h (j + 1) = touchP k a h j ++ [] from by have hop:=HOP.out;rw [touchP_snoc];simp [touchF,hrb,hop]);clear hrb HCNJ HRB ;go_wp2_with fail
       refine hcn.out.mono ?_;rintro e w3 ⟨rfl,rfl⟩;go_wp2_with fail
       go_roundg (k.globals.length - (j + 1))
       case measure=>omega
       case rel=>exact ⟨j + 1,by omega,rfl,by go_num,by rw [HT2.out,List.append_nil];exact ho,hb⟩
     ·
      have hcn:=HCNJ.out;rw [hrb] at hcn;have hcn:=Lib.hid hcn
      ·
       skip
       have HT2:=Lib.hid (show touchP k a h (j + 1) = touchP k a h j ++ [⟨a,j,false,h⟩] from by have hop:=HOP.out;rw [touchP_snoc];simp [touchF,hrb,hop]);clear hrb HCNJ HRB ;go_wp2_with fail
       refine hcn.out.mono ?_;rintro e w3 ⟨rfl,rfl⟩;go_wp2_with (at_builtin;first | (refine append_touch ⟨a,j,false,h⟩ rfl _ _ rfl ho rfl rfl (by omega) hsz ?_;intro A2 c2 w2x ho2 hg2 hv2;have hb2:=below_append hb ho hg2 hsz (Nat.le_refl _);have hsz2:=hb2.size;have o02:=HO0.out _ hb2;have o12:=HO1.out _ hb2))
       go_roundg (k.globals.length - (j + 1))
       case measure=>omega
       case rel=>exact ⟨j + 1,by omega,rfl,by go_num,by rw [HT2.out,List.length_append];exact ho2,hb2⟩
    ·
     obtain rfl : j = k.globals.length:=by omega
     have HFI:=Lib.hid (show NewT w (touchL k a h) (.returned (.slice Ao (touchP k a h k.globals.length).length co)) wr from by
      rw [HTL.out];exact ⟨Ao,co,rfl,own_mono ho h02.size,below_trans' h02 hb⟩)
     go_wp2_with fail
     go_ret
     exact HFI.out
 ·
  have HZ:=Lib.hid (show touchL k a h = [] from by unfold touchL;rw [if_neg h12]);have n1 : (opN k a != 1) = true:=by simp only [bne_iff_ne,ne_eq];exact fun e=>h12 (.inl e)
  have n2 : (opN k a != 2) = true:=by simp only [bne_iff_ne,ne_eq];exact fun e=>h12 (.inr e)
  clear hkf kkid hk hcb
  go_enter Tryz.func185, Tryz.ntmps185
  have b1:=below_alloc0 w (.cells #[.slice gA k.globals.length gc,.slice lA k.locks.length lc,.slice pA k.procs.length pc,.slice eA0 k.entry.length ec,.slice (some ai) k.ins.length ic] 28);have b2:=below_alloc0 (w.alloc (.cells #[.slice gA k.globals.length gc,.slice lA k.locks.length lc,.slice pA k.procs.length pc,.slice eA0 k.entry.length ec,.slice (some ai) k.ins.length ic] 28)) (.cells #[.int .i64 (opN k a),.int .i64 (argN k a),.int .i64 k.ins[a].term.kind,.int .i64 k.ins[a].term.num,.string k.ins[a].term.name,.slice A' k.ins[a].term.kids.length c',.int .i64 k.ins[a].to] 52);obtain ⟨q1,q2,c0,c1,c2,c3,c4⟩:=id hbx;have kk0:=cell_below b1 k0;have kk1:=cell_below b1 k1;have kk2:=cell_below b1 k2;have kk3:=cell_below b1 k3;have kk4:=cell_below b1 k4;have kk5:=cell_below b1 k5;have kk6:=cell_below b1 k6;have o0:=box_cell (w.alloc (.cells #[.slice gA k.globals.length gc,.slice lA k.locks.length lc,.slice pA k.procs.length pc,.slice eA0 k.entry.length ec,.slice (some ai) k.ins.length ic] 28)) #[.int .i64 (opN k a),.int .i64 (argN k a),.int .i64 k.ins[a].term.kind,.int .i64 k.ins[a].term.num,.string k.ins[a].term.name,.slice A' k.ins[a].term.kids.length c',.int .i64 k.ins[a].to] 52 0 rfl;have o1:=box_cell (w.alloc (.cells #[.slice gA k.globals.length gc,.slice lA k.locks.length lc,.slice pA k.procs.length pc,.slice eA0 k.entry.length ec,.slice (some ai) k.ins.length ic] 28)) #[.int .i64 (opN k a),.int .i64 (argN k a),.int .i64 k.ins[a].term.kind,.int .i64 k.ins[a].term.num,.string k.ins[a].term.name,.slice A' k.ins[a].term.kids.length c',.int .i64 k.ins[a].to] 52 1 rfl;clear h12;go_wp2_with fail
  go_ret
  rw [HZ.out];exact ⟨none,0,rfl,World.ownsRow_nil _ _ _ _,below_trans' b1 b2⟩
theorem l17At_any {B L : Nat} (v : CV) (k : Cd) (a h : Nat) (w : World) (hr : Right k) (hk : CodeAt w B v k) (hcb : CdB L k) (hL : L ≤ 1048576) (ha : a < k.ins.length) :
  Calls Tryz.prog 186 #[.agg #[.slice v.gA k.globals.length v.gc, .slice v.lA k.locks.length v.lc, .slice v.pA k.procs.length v.pc, .slice v.eA k.entry.length v.ec, .slice v.iA k.ins.length v.ic],.int .i64 a,.int .i64 h] w (NewT w (touchL k a h)):=by
 have hkf:=hk.full;have hbx:=codeBox w v k;have hins:=hr.ins;have hgl:=hr.globals;obtain ⟨ai,A',c',eA,hbi,k0,k1,k2,k3,k4,k5,k6,kkid⟩:=hkf.full.i.get ha;rw [opN_eq ha] at k0;rw [argN_eq hr ha] at k1;have HTB:=Lib.hid ((hcb.insB _ (List.getElem_mem ha)).term);have hkid:=kkid.full;have HRD:=Lib.hid (fun W (hb : Below w.heap.size w W)=>readsOf_s k.ins[a].term A' c' W (hkid.below hb) HTB.out (by omega));have HRA:=Lib.hid (show readsAt k a = readsOf k.ins[a].term from by simp [readsAt,ha]);have hrl:=readsF_len6 k.ins[a].term;have HRL:=Lib.hid hrl;have HGC:=Lib.hid (fun W (hb : Below w.heap.size w W)=>(hkf.below hb).full.g);have x1 : (0 : Int) ≤ (a : Int):=by omega
 have x2 : (a : Int) < (k.ins.length : Int):=by omega
 obtain ⟨gA,lA,pA,eA0,iA,gc,lc,pc,ec,ic⟩:=v;dsimp only at *;subst eA;by_cases h12 : opN k a = 1 ∨ opN k a = 2
 ·
  have HTL:=Lib.hid (show touchL k a h = touchP k a h k.globals.length from by unfold touchL;rw [if_pos h12]);by_cases h1 : opN k a = 1
  ·
   rw [h1] at k0;have HOP:=Lib.hid h1;clear h12 h1;clear hkf kkid hk hcb
   go_enter Tryz.func186, Tryz.ntmps186
   have b1:=below_alloc0 w (.cells #[.slice gA k.globals.length gc,.slice lA k.locks.length lc,.slice pA k.procs.length pc,.slice eA0 k.entry.length ec,.slice (some ai) k.ins.length ic] 28);have b1a:=below_alloc0 (w.alloc (.cells #[.slice gA k.globals.length gc,.slice lA k.locks.length lc,.slice pA k.procs.length pc,.slice eA0 k.entry.length ec,.slice (some ai) k.ins.length ic] 28)) (.cells #[] 66);have b2:=below_alloc0 ((w.alloc (.cells #[.slice gA k.globals.length gc,.slice lA k.locks.length lc,.slice pA k.procs.length pc,.slice eA0 k.entry.length ec,.slice (some ai) k.ins.length ic] 28)).alloc (.cells #[] 66)) (.cells #[.int .i64 1,.int .i64 (argN k a),.int .i64 k.ins[a].term.kind,.int .i64 k.ins[a].term.num,.string k.ins[a].term.name,.slice A' k.ins[a].term.kids.length c',.int .i64 k.ins[a].to] 52);have hbx1:=hbx.to b1a;obtain ⟨q1,q2,c0,c1,c2,c3,c4⟩:=id hbx1;have kk0:=cell_below b1a (cell_below b1 k0);have kk1:=cell_below b1a (cell_below b1 k1);have kk2:=cell_below b1a (cell_below b1 k2);have kk3:=cell_below b1a (cell_below b1 k3);have kk4:=cell_below b1a (cell_below b1 k4);have kk5:=cell_below b1a (cell_below b1 k5);have kk6:=cell_below b1a (cell_below b1 k6);have o0:=box_cell ((w.alloc (.cells #[.slice gA k.globals.length gc,.slice lA k.locks.length lc,.slice pA k.procs.length pc,.slice eA0 k.entry.length ec,.slice (some ai) k.ins.length ic] 28)).alloc (.cells #[] 66)) #[.int .i64 1,.int .i64 (argN k a),.int .i64 k.ins[a].term.kind,.int .i64 k.ins[a].term.num,.string k.ins[a].term.name,.slice A' k.ins[a].term.kids.length c',.int .i64 k.ins[a].to] 52 0 rfl;have o1:=box_cell ((w.alloc (.cells #[.slice gA k.globals.length gc,.slice lA k.locks.length lc,.slice pA k.procs.length pc,.slice eA0 k.entry.length ec,.slice (some ai) k.ins.length ic] 28)).alloc (.cells #[] 66)) #[.int .i64 1,.int .i64 (argN k a),.int .i64 k.ins[a].term.kind,.int .i64 k.ins[a].term.num,.string k.ins[a].term.name,.slice A' k.ins[a].term.kids.length c',.int .i64 k.ins[a].to] 52 1 rfl;have ho0 : ((w.alloc (.cells #[.slice gA k.globals.length gc,.slice lA k.locks.length lc,.slice pA k.procs.length pc,.slice eA0 k.entry.length ec,.slice (some ai) k.ins.length ic] 28)).alloc (.cells #[] 66)).ownsRow (w.heap.size + 1) 66 4 (.slice (some ⟨w.heap.size + 1,0,none⟩) 0 0) 0 (tCells []):=by
    have:=World.ownsRow_lit (base:=w.heap.size + 1) (e := 66) (size:=4) (w.alloc (.cells #[.slice gA k.globals.length gc,.slice lA k.locks.length lc,.slice pA k.procs.length pc,.slice eA0 k.entry.length ec,.slice (some ai) k.ins.length ic] 28)) #[] 0 (by simp) (by simp) rfl;simpa [tCells] using this
   go_wp2_with fail
   have h0w2:=below_trans' (below_trans' b1 b1a) b2;refine (HRD.out _ h0w2).mono ?_;rintro e w2 ⟨Ar,cr,rfl,hor,hb2⟩;have h02:=below_trans' h0w2 hb2;have hbx2:=(hbx1.to b2).to hb2;have o02:=cell_below hb2 o0;have o12:=cell_below hb2 o1;have hobx : (((w.alloc (.cells #[.slice gA k.globals.length gc,.slice lA k.locks.length lc,.slice pA k.procs.length pc,.slice eA0 k.entry.length ec,.slice (some ai) k.ins.length ic] 28)).alloc (.cells #[] 66))).heap.size < w2.heap.size:=Nat.lt_of_lt_of_le (World.block_lt_of_cell? _ _ o0) hb2.size;rw [show (((w.alloc (.cells #[.slice gA k.globals.length gc,.slice lA k.locks.length lc,.slice pA k.procs.length pc,.slice eA0 k.entry.length ec,.slice (some ai) k.ins.length ic] 28)).alloc (.cells #[] 66))).heap.size = w.heap.size + 1 + 1 from by simp] at o02 o12 hobx;have ho2:=own_below (own_below ho0 b2) hb2;have hw1 : w.heap.size + 1 < w2.heap.size:=(ho2.lt _ rfl).2;have horb : w.heap.size + 1 < ((((w.alloc (.cells #[.slice gA k.globals.length gc,.slice lA k.locks.length lc,.slice pA k.procs.length pc,.slice eA0 k.entry.length ec,.slice (some ai) k.ins.length ic] 28)).alloc (.cells #[] 66))).alloc (.cells #[.int .i64 1,.int .i64 (argN k a),.int .i64 k.ins[a].term.kind,.int .i64 k.ins[a].term.num,.string k.ins[a].term.name,.slice A' k.ins[a].term.kids.length c',.int .i64 k.ins[a].to] 52)).heap.size:=by simp
   have HRDN:=Lib.hid (fun V (h : Tch (w.heap.size + 1) (w.heap.size + 1) (w.heap.size + 1) w2 V)=>own_rd (h.own hor horb horb horb));have HBT:=Lib.hid (fun V (h : Tch (w.heap.size + 1) (w.heap.size + 1) (w.heap.size + 1) w2 V)=>h.below (B:=w.heap.size + 1) (by omega) (Nat.le_refl _) (Nat.le_refl _) (Nat.le_refl _));have HCN:=Lib.hid (fun nm V (h : Tch (w.heap.size + 1) (w.heap.size + 1) (w.heap.size + 1) w2 V)=>l04Has_any Ar cr (readsOf k.ins[a].term) nm V (HRDN.out _ h) (by omega));have hobn : w.heap.size + 1 + 1 ≠ w.heap.size + 1:=by omega
   have HO0:=Lib.hid (fun V (h : Tch (w.heap.size + 1) (w.heap.size + 1) (w.heap.size + 1) w2 V)=>(World.cell?_of_block (h.block _ hobx hobn hobn hobn)).trans o02);have HO1:=Lib.hid (fun V (h : Tch (w.heap.size + 1) (w.heap.size + 1) (w.heap.size + 1) w2 V)=>(World.cell?_of_block (h.block _ hobx hobn hobn hobn)).trans o12);have HBX:=Lib.hid (fun V (h : Tch (w.heap.size + 1) (w.heap.size + 1) (w.heap.size + 1) w2 V)=>CodeBox.at (w:=w) (v:=⟨gA,lA,pA,eA0,some ai,gc,lc,pc,ec,ic⟩) (k:=k) hbx2 (HBT.out _ h) (by omega));obtain ⟨q1',q2',d0,d1,d2,d3,d4⟩:=id hbx2;clear b1 b2 kk0 kk1 kk2 kk3 kk4 kk5 kk6 o0 o1 c0 c1 c2 c3 c4 q1 q2 k0 k1 k2 k3 k4 k5 k6 hor hb2 h0w2 hkid b1a ho0 hobn horb hobx;go_wp2_with fail
   clear d0 d1 d2 d3 d4 q1' q2';have HP0:=Lib.hid (show touchP k a h 0 = [] from rfl);go_loopg [7,10] k.globals.length (fun l out i wr=>∃ j : Nat,j ≤ k.globals.length ∧ l = k.globals.length - j ∧ i = .int .i64 j ∧ wr.ownsRow (w.heap.size + 1) 66 4 out (touchP k a h j).length (tCells (touchP k a h j)) ∧ OBk (w.heap.size + 1) w2.heap.size out ∧ Tch (w.heap.size + 1) (w.heap.size + 1) (w.heap.size + 1) w2 wr)
   case atStart=>exact ⟨0,by omega,by omega,rfl,ho2,fun b hb=>.inl (by injection hb with hb;exact hb.symm),Tch.refl _ _ _ _⟩
   case round =>
    clear ho2;obtain ⟨j,hj,rfl,rfl,ho,hOB,hT⟩:=hrel;obtain ⟨co,Ao,rfl⟩ : ∃ co Ao,_:=by
     obtain ⟨Ao,co,e⟩:=own_form ho;exact ⟨co,Ao,e⟩
    have hpl:=touchP_len k a h j;have hszT:=hT.size;have hsz : w.heap.size + 1 ≤ wr.heap.size:=by omega
    have o0:=HO0.out _ hT;have o1:=HO1.out _ hT;obtain ⟨q1,q2,c0,c1,c2,c3,c4⟩:=id (HBX.out _ hT);by_cases hlt : j < k.globals.length
    ·
     have hgx:=HGC.out _ (HBX.out _ hT).1;obtain ⟨adg,eg,_,hcg⟩:=hgx j (sv k.globals[j]) (by simp [hlt]);subst eg;have z1 : (0 : Int) ≤ (j : Int):=by omega
     have z2 : (j : Int) < (k.globals.length : Int):=by omega
     have HRB:=Lib.hid (show readsB k a j = decide (k.globals[j] ∈ readsOf k.ins[a].term) from by simp [readsB,hlt,HRA.out]);have hcn:=HCN.out k.globals[j] wr hT;rw [← HRB.out] at hcn;have HCNJ:=Lib.hid hcn;clear hcn;generalize k.globals[j] = nm at *;cases hrb : readsB k a j
     ·
      have hcn:=HCNJ.out;rw [hrb] at hcn;have hcn:=Lib.hid hcn;by_cases hag : argN k a = j
      rotate_left
      ·
       have hag2 : (((argN k a : Nat) : Int) == (j : Int)) = false:=by rw [beq_eq_false_iff_ne];omega
       have HT2:=Lib.hid (show touchP k a h (j + 1) = touchP k a h j ++ [] from by have hop:=HOP.out;rw [touchP_snoc];simp [touchF,hrb,hop,hag]);clear hrb HCNJ HRB hag;go_wp2_with fail
       refine hcn.out.mono ?_;rintro e w3 ⟨rfl,rfl⟩;go_wp2_with fail
       go_roundg (k.globals.length - (j + 1))
       case measure=>omega
       case rel=>exact ⟨j + 1,by omega,rfl,by go_num,by rw [HT2.out,List.append_nil];exact ho,hOB,hT⟩
      ·
       have hag2 : (((argN k a : Nat) : Int) == (j : Int)) = true:=by rw [beq_iff_eq];omega
       have HT2:=Lib.hid (show touchP k a h (j + 1) = touchP k a h j ++ [⟨a,j,true,h⟩] from by have hop:=HOP.out;rw [touchP_snoc];simp [touchF,hrb,hop,hag]);clear hrb HCNJ HRB hag;go_wp2_with fail
       refine hcn.out.mono ?_;rintro e w3 ⟨rfl,rfl⟩;go_wp2_with (at_builtin;first | (refine append_touch ⟨a,j,true,h⟩ rfl _ _ rfl ho rfl rfl (by omega) hsz ?_;intro A2 c2 w2x ho2 hg2 hv2;have hT2:=hT.app hg2 hOB;have hOB2:=hOB.app hv2 (hszT);have hszT2:=hT2.size;have hsz2 : w.heap.size + 1 ≤ w2x.heap.size:=(by omega);have o02:=HO0.out _ hT2;have o12:=HO1.out _ hT2;obtain ⟨p21,p22,e20,e21,e22,e23,e24⟩:=id (HBX.out _ hT2)))
       go_roundg (k.globals.length - (j + 1))
       case measure=>omega
       case rel=>exact ⟨j + 1,by omega,rfl,by go_num,by rw [HT2.out,List.length_append];exact ho2,hOB2,hT2⟩
     ·
      have hcn:=HCNJ.out;rw [hrb] at hcn;have hcn:=Lib.hid hcn;by_cases hag : argN k a = j
      rotate_left
      ·
       have hag2 : (((argN k a : Nat) : Int) == (j : Int)) = false:=by rw [beq_eq_false_iff_ne];omega
       have HT2:=Lib.hid (show touchP k a h (j + 1) = touchP k a h j ++ [⟨a,j,false,h⟩] from by have hop:=HOP.out;rw [touchP_snoc];simp [touchF,hrb,hop,hag]);clear hrb HCNJ HRB hag;go_wp2_with fail
       refine hcn.out.mono ?_;rintro e w3 ⟨rfl,rfl⟩;go_wp2_with (at_builtin;first | (refine append_touch ⟨a,j,false,h⟩ rfl _ _ rfl ho rfl rfl (by omega) hsz ?_;intro A2 c2 w2x ho2 hg2 hv2;have hT2:=hT.app hg2 hOB;have hOB2:=hOB.app hv2 (hszT);have hszT2:=hT2.size;have hsz2 : w.heap.size + 1 ≤ w2x.heap.size:=(by omega);have o02:=HO0.out _ hT2;have o12:=HO1.out _ hT2;obtain ⟨p21,p22,e20,e21,e22,e23,e24⟩:=id (HBX.out _ hT2)))
       go_roundg (k.globals.length - (j + 1))
       case measure=>omega
       case rel=>exact ⟨j + 1,by omega,rfl,by go_num,by rw [HT2.out,List.length_append];exact ho2,hOB2,hT2⟩
      ·
       have hag2 : (((argN k a : Nat) : Int) == (j : Int)) = true:=by rw [beq_iff_eq];omega
       have HT2:=Lib.hid (show touchP k a h (j + 1) = touchP k a h j ++ [⟨a,j,false,h⟩,⟨a,j,true,h⟩] from by have hop:=HOP.out;rw [touchP_snoc];simp [touchF,hrb,hop,hag]);clear hrb HCNJ HRB hag;go_wp2_with fail
       refine hcn.out.mono ?_;rintro e w3 ⟨rfl,rfl⟩;go_wp2_with (at_builtin;first | (refine append_touch ⟨a,j,false,h⟩ rfl _ _ rfl ho rfl rfl (by omega) hsz ?_;intro A2 c2 w2x ho2 hg2 hv2;have hT2:=hT.app hg2 hOB;have hOB2:=hOB.app hv2 (hszT);have hszT2:=hT2.size;have hsz2 : w.heap.size + 1 ≤ w2x.heap.size:=(by omega);have o02:=HO0.out _ hT2;have o12:=HO1.out _ hT2;obtain ⟨p21,p22,e20,e21,e22,e23,e24⟩:=id (HBX.out _ hT2)) | (refine append_touch ⟨a,j,true,h⟩ rfl _ _ rfl ho2 rfl rfl (by omega) hsz2 ?_;intro A3 c3 w3x ho3 hg3 hv3;have hT3:=hT2.app hg3 hOB2;have hOB3:=hOB2.app hv3 (hszT2);have hszT3:=hT3.size;have hsz3 : w.heap.size + 1 ≤ w3x.heap.size:=(by omega);have o03:=HO0.out _ hT3;have o13:=HO1.out _ hT3;obtain ⟨p31,p32,e30,e31,e32,e33,e34⟩:=id (HBX.out _ hT3)))
       go_roundg (k.globals.length - (j + 1))
       case measure=>omega
       case rel=>exact ⟨j + 1,by omega,rfl,by go_num,by rw [HT2.out,List.length_append,show [(⟨a,j,false,h⟩ : Tt),⟨a,j,true,h⟩] = [⟨a,j,false,h⟩] ++ [⟨a,j,true,h⟩] from rfl,← List.append_assoc];exact ho3,hOB3,hT3⟩
    ·
     obtain rfl : j = k.globals.length:=by omega
     have HFI:=Lib.hid (show NewT w (touchL k a h) (.returned (.slice Ao (touchP k a h k.globals.length).length co)) wr from by
      rw [HTL.out];exact ⟨Ao,co,rfl,own_mono ho (by omega),(HBX.out _ hT).1⟩)
     go_wp2_with fail
     go_ret
     exact HFI.out
  ·
   have h2 : opN k a = 2:=h12.resolve_left h1;rw [h2] at k0;have HOP:=Lib.hid h2;clear h12 h1 h2;clear hkf kkid hk hcb
   go_enter Tryz.func186, Tryz.ntmps186
   have b1:=below_alloc0 w (.cells #[.slice gA k.globals.length gc,.slice lA k.locks.length lc,.slice pA k.procs.length pc,.slice eA0 k.entry.length ec,.slice (some ai) k.ins.length ic] 28);have b1a:=below_alloc0 (w.alloc (.cells #[.slice gA k.globals.length gc,.slice lA k.locks.length lc,.slice pA k.procs.length pc,.slice eA0 k.entry.length ec,.slice (some ai) k.ins.length ic] 28)) (.cells #[] 66);have b2:=below_alloc0 ((w.alloc (.cells #[.slice gA k.globals.length gc,.slice lA k.locks.length lc,.slice pA k.procs.length pc,.slice eA0 k.entry.length ec,.slice (some ai) k.ins.length ic] 28)).alloc (.cells #[] 66)) (.cells #[.int .i64 2,.int .i64 (argN k a),.int .i64 k.ins[a].term.kind,.int .i64 k.ins[a].term.num,.string k.ins[a].term.name,.slice A' k.ins[a].term.kids.length c',.int .i64 k.ins[a].to] 52);have hbx1:=hbx.to b1a;obtain ⟨q1,q2,c0,c1,c2,c3,c4⟩:=id hbx1;have kk0:=cell_below b1a (cell_below b1 k0);have kk1:=cell_below b1a (cell_below b1 k1);have kk2:=cell_below b1a (cell_below b1 k2);have kk3:=cell_below b1a (cell_below b1 k3);have kk4:=cell_below b1a (cell_below b1 k4);have kk5:=cell_below b1a (cell_below b1 k5);have kk6:=cell_below b1a (cell_below b1 k6);have o0:=box_cell ((w.alloc (.cells #[.slice gA k.globals.length gc,.slice lA k.locks.length lc,.slice pA k.procs.length pc,.slice eA0 k.entry.length ec,.slice (some ai) k.ins.length ic] 28)).alloc (.cells #[] 66)) #[.int .i64 2,.int .i64 (argN k a),.int .i64 k.ins[a].term.kind,.int .i64 k.ins[a].term.num,.string k.ins[a].term.name,.slice A' k.ins[a].term.kids.length c',.int .i64 k.ins[a].to] 52 0 rfl;have o1:=box_cell ((w.alloc (.cells #[.slice gA k.globals.length gc,.slice lA k.locks.length lc,.slice pA k.procs.length pc,.slice eA0 k.entry.length ec,.slice (some ai) k.ins.length ic] 28)).alloc (.cells #[] 66)) #[.int .i64 2,.int .i64 (argN k a),.int .i64 k.ins[a].term.kind,.int .i64 k.ins[a].term.num,.string k.ins[a].term.name,.slice A' k.ins[a].term.kids.length c',.int .i64 k.ins[a].to] 52 1 rfl;have ho0 : ((w.alloc (.cells #[.slice gA k.globals.length gc,.slice lA k.locks.length lc,.slice pA k.procs.length pc,.slice eA0 k.entry.length ec,.slice (some ai) k.ins.length ic] 28)).alloc (.cells #[] 66)).ownsRow (w.heap.size + 1) 66 4 (.slice (some ⟨w.heap.size + 1,0,none⟩) 0 0) 0 (tCells []):=by
    have:=World.ownsRow_lit (base:=w.heap.size + 1) (e := 66) (size:=4) (w.alloc (.cells #[.slice gA k.globals.length gc,.slice lA k.locks.length lc,.slice pA k.procs.length pc,.slice eA0 k.entry.length ec,.slice (some ai) k.ins.length ic] 28)) #[] 0 (by simp) (by simp) rfl;simpa [tCells] using this
   go_wp2_with fail
   have h0w2:=below_trans' (below_trans' b1 b1a) b2;refine (HRD.out _ h0w2).mono ?_;rintro e w2 ⟨Ar,cr,rfl,hor,hb2⟩;have h02:=below_trans' h0w2 hb2;have hbx2:=(hbx1.to b2).to hb2;have o02:=cell_below hb2 o0;have o12:=cell_below hb2 o1;have hobx : (((w.alloc (.cells #[.slice gA k.globals.length gc,.slice lA k.locks.length lc,.slice pA k.procs.length pc,.slice eA0 k.entry.length ec,.slice (some ai) k.ins.length ic] 28)).alloc (.cells #[] 66))).heap.size < w2.heap.size:=Nat.lt_of_lt_of_le (World.block_lt_of_cell? _ _ o0) hb2.size;rw [show (((w.alloc (.cells #[.slice gA k.globals.length gc,.slice lA k.locks.length lc,.slice pA k.procs.length pc,.slice eA0 k.entry.length ec,.slice (some ai) k.ins.length ic] 28)).alloc (.cells #[] 66))).heap.size = w.heap.size + 1 + 1 from by simp] at o02 o12 hobx;have ho2:=own_below (own_below ho0 b2) hb2;have hw1 : w.heap.size + 1 < w2.heap.size:=(ho2.lt _ rfl).2;have horb : w.heap.size + 1 < ((((w.alloc (.cells #[.slice gA k.globals.length gc,.slice lA k.locks.length lc,.slice pA k.procs.length pc,.slice eA0 k.entry.length ec,.slice (some ai) k.ins.length ic] 28)).alloc (.cells #[] 66))).alloc (.cells #[.int .i64 2,.int .i64 (argN k a),.int .i64 k.ins[a].term.kind,.int .i64 k.ins[a].term.num,.string k.ins[a].term.name,.slice A' k.ins[a].term.kids.length c',.int .i64 k.ins[a].to] 52)).heap.size:=by simp
   have HRDN:=Lib.hid (fun V (h : Tch (w.heap.size + 1) (w.heap.size + 1) (w.heap.size + 1) w2 V)=>own_rd (h.own hor horb horb horb));have HBT:=Lib.hid (fun V (h : Tch (w.heap.size + 1) (w.heap.size + 1) (w.heap.size + 1) w2 V)=>h.below (B:=w.heap.size + 1) (by omega) (Nat.le_refl _) (Nat.le_refl _) (Nat.le_refl _));have HCN:=Lib.hid (fun nm V (h : Tch (w.heap.size + 1) (w.heap.size + 1) (w.heap.size + 1) w2 V)=>l04Has_any Ar cr (readsOf k.ins[a].term) nm V (HRDN.out _ h) (by omega));have hobn : w.heap.size + 1 + 1 ≠ w.heap.size + 1:=by omega
   have HO0:=Lib.hid (fun V (h : Tch (w.heap.size + 1) (w.heap.size + 1) (w.heap.size + 1) w2 V)=>(World.cell?_of_block (h.block _ hobx hobn hobn hobn)).trans o02);have HO1:=Lib.hid (fun V (h : Tch (w.heap.size + 1) (w.heap.size + 1) (w.heap.size + 1) w2 V)=>(World.cell?_of_block (h.block _ hobx hobn hobn hobn)).trans o12);have HBX:=Lib.hid (fun V (h : Tch (w.heap.size + 1) (w.heap.size + 1) (w.heap.size + 1) w2 V)=>CodeBox.at (w:=w) (v:=⟨gA,lA,pA,eA0,some ai,gc,lc,pc,ec,ic⟩) (k:=k) hbx2 (HBT.out _ h) (by omega));obtain ⟨q1',q2',d0,d1,d2,d3,d4⟩:=id hbx2;clear b1 b2 kk0 kk1 kk2 kk3 kk4 kk5 kk6 o0 o1 c0 c1 c2 c3 c4 q1 q2 k0 k1 k2 k3 k4 k5 k6 hor hb2 h0w2 hkid b1a ho0 hobn horb hobx;go_wp2_with fail
   clear d0 d1 d2 d3 d4 q1' q2';have HP0:=Lib.hid (show touchP k a h 0 = [] from rfl);go_loopg [7,10] k.globals.length (fun l out i wr=>∃ j : Nat,j ≤ k.globals.length ∧ l = k.globals.length - j ∧ i = .int .i64 j ∧ wr.ownsRow (w.heap.size + 1) 66 4 out (touchP k a h j).length (tCells (touchP k a h j)) ∧ OBk (w.heap.size + 1) w2.heap.size out ∧ Tch (w.heap.size + 1) (w.heap.size + 1) (w.heap.size + 1) w2 wr)
   case atStart=>exact ⟨0,by omega,by omega,rfl,ho2,fun b hb=>.inl (by injection hb with hb;exact hb.symm),Tch.refl _ _ _ _⟩
   case round =>
    clear ho2;obtain ⟨j,hj,rfl,rfl,ho,hOB,hT⟩:=hrel;obtain ⟨co,Ao,rfl⟩ : ∃ co Ao,_:=by
     obtain ⟨Ao,co,e⟩:=own_form ho;exact ⟨co,Ao,e⟩
    have hpl:=touchP_len k a h j;have hszT:=hT.size;have hsz : w.heap.size + 1 ≤ wr.heap.size:=by omega
    have o0:=HO0.out _ hT;have o1:=HO1.out _ hT;obtain ⟨q1,q2,c0,c1,c2,c3,c4⟩:=id (HBX.out _ hT);by_cases hlt : j < k.globals.length
    ·
     have hgx:=HGC.out _ (HBX.out _ hT).1;obtain ⟨adg,eg,_,hcg⟩:=hgx j (sv k.globals[j]) (by simp [hlt]);subst eg;have z1 : (0 : Int) ≤ (j : Int):=by omega
     have z2 : (j : Int) < (k.globals.length : Int):=by omega
     have HRB:=Lib.hid (show readsB k a j = decide (k.globals[j] ∈ readsOf k.ins[a].term) from by simp [readsB,hlt,HRA.out]);have hcn:=HCN.out k.globals[j] wr hT;rw [← HRB.out] at hcn;have HCNJ:=Lib.hid hcn;clear hcn;generalize k.globals[j] = nm at *;cases hrb : readsB k a j
     ·
      have hcn:=HCNJ.out;rw [hrb] at hcn;have hcn:=Lib.hid hcn
      ·
       skip
       have HT2:=Lib.hid (show touchP k a h (j + 1) = touchP k a h j ++ [] from by have hop:=HOP.out;rw [touchP_snoc];simp [touchF,hrb,hop]);clear hrb HCNJ HRB ;go_wp2_with fail
       refine hcn.out.mono ?_;rintro e w3 ⟨rfl,rfl⟩;go_wp2_with fail
       go_roundg (k.globals.length - (j + 1))
       case measure=>omega
       case rel=>exact ⟨j + 1,by omega,rfl,by go_num,by rw [HT2.out,List.append_nil];exact ho,hOB,hT⟩
     ·
      have hcn:=HCNJ.out;rw [hrb] at hcn;have hcn:=Lib.hid hcn
      ·
       skip
       have HT2:=Lib.hid (show touchP k a h (j + 1) = touchP k a h j ++ [⟨a,j,false,h⟩] from by have hop:=HOP.out;rw [touchP_snoc];simp [touchF,hrb,hop]);clear hrb HCNJ HRB ;go_wp2_with fail
       refine hcn.out.mono ?_;rintro e w3 ⟨rfl,rfl⟩;go_wp2_with (at_builtin;first | (refine append_touch ⟨a,j,false,h⟩ rfl _ _ rfl ho rfl rfl (by omega) hsz ?_;intro A2 c2 w2x ho2 hg2 hv2;have hT2:=hT.app hg2 hOB;have hOB2:=hOB.app hv2 (hszT);have hszT2:=hT2.size;have hsz2 : w.heap.size + 1 ≤ w2x.heap.size:=(by omega);have o02:=HO0.out _ hT2;have o12:=HO1.out _ hT2;obtain ⟨p21,p22,e20,e21,e22,e23,e24⟩:=id (HBX.out _ hT2)))
       go_roundg (k.globals.length - (j + 1))
       case measure=>omega
       case rel=>exact ⟨j + 1,by omega,rfl,by go_num,by rw [HT2.out,List.length_append];exact ho2,hOB2,hT2⟩
    ·
     obtain rfl : j = k.globals.length:=by omega
     have HFI:=Lib.hid (show NewT w (touchL k a h) (.returned (.slice Ao (touchP k a h k.globals.length).length co)) wr from by
      rw [HTL.out];exact ⟨Ao,co,rfl,own_mono ho (by omega),(HBX.out _ hT).1⟩)
     go_wp2_with fail
     go_ret
     exact HFI.out
 ·
  have HZ:=Lib.hid (show touchL k a h = [] from by unfold touchL;rw [if_neg h12]);have n1 : (opN k a != 1) = true:=by simp only [bne_iff_ne,ne_eq];exact fun e=>h12 (.inl e)
  have n2 : (opN k a != 2) = true:=by simp only [bne_iff_ne,ne_eq];exact fun e=>h12 (.inr e)
  clear hkf kkid hk hcb
  go_enter Tryz.func186, Tryz.ntmps186
  have b1:=below_alloc0 w (.cells #[.slice gA k.globals.length gc,.slice lA k.locks.length lc,.slice pA k.procs.length pc,.slice eA0 k.entry.length ec,.slice (some ai) k.ins.length ic] 28);have b1a:=below_alloc0 (w.alloc (.cells #[.slice gA k.globals.length gc,.slice lA k.locks.length lc,.slice pA k.procs.length pc,.slice eA0 k.entry.length ec,.slice (some ai) k.ins.length ic] 28)) (.cells #[] 66);have b2:=below_alloc0 ((w.alloc (.cells #[.slice gA k.globals.length gc,.slice lA k.locks.length lc,.slice pA k.procs.length pc,.slice eA0 k.entry.length ec,.slice (some ai) k.ins.length ic] 28)).alloc (.cells #[] 66)) (.cells #[.int .i64 (opN k a),.int .i64 (argN k a),.int .i64 k.ins[a].term.kind,.int .i64 k.ins[a].term.num,.string k.ins[a].term.name,.slice A' k.ins[a].term.kids.length c',.int .i64 k.ins[a].to] 52);have hbx1:=hbx.to b1a;obtain ⟨q1,q2,c0,c1,c2,c3,c4⟩:=id hbx1;have kk0:=cell_below b1a (cell_below b1 k0);have kk1:=cell_below b1a (cell_below b1 k1);have kk2:=cell_below b1a (cell_below b1 k2);have kk3:=cell_below b1a (cell_below b1 k3);have kk4:=cell_below b1a (cell_below b1 k4);have kk5:=cell_below b1a (cell_below b1 k5);have kk6:=cell_below b1a (cell_below b1 k6);have o0:=box_cell ((w.alloc (.cells #[.slice gA k.globals.length gc,.slice lA k.locks.length lc,.slice pA k.procs.length pc,.slice eA0 k.entry.length ec,.slice (some ai) k.ins.length ic] 28)).alloc (.cells #[] 66)) #[.int .i64 (opN k a),.int .i64 (argN k a),.int .i64 k.ins[a].term.kind,.int .i64 k.ins[a].term.num,.string k.ins[a].term.name,.slice A' k.ins[a].term.kids.length c',.int .i64 k.ins[a].to] 52 0 rfl;have o1:=box_cell ((w.alloc (.cells #[.slice gA k.globals.length gc,.slice lA k.locks.length lc,.slice pA k.procs.length pc,.slice eA0 k.entry.length ec,.slice (some ai) k.ins.length ic] 28)).alloc (.cells #[] 66)) #[.int .i64 (opN k a),.int .i64 (argN k a),.int .i64 k.ins[a].term.kind,.int .i64 k.ins[a].term.num,.string k.ins[a].term.name,.slice A' k.ins[a].term.kids.length c',.int .i64 k.ins[a].to] 52 1 rfl;have ho0 : ((w.alloc (.cells #[.slice gA k.globals.length gc,.slice lA k.locks.length lc,.slice pA k.procs.length pc,.slice eA0 k.entry.length ec,.slice (some ai) k.ins.length ic] 28)).alloc (.cells #[] 66)).ownsRow (w.heap.size + 1) 66 4 (.slice (some ⟨w.heap.size + 1,0,none⟩) 0 0) 0 (tCells []):=by
   have:=World.ownsRow_lit (base:=w.heap.size + 1) (e := 66) (size:=4) (w.alloc (.cells #[.slice gA k.globals.length gc,.slice lA k.locks.length lc,.slice pA k.procs.length pc,.slice eA0 k.entry.length ec,.slice (some ai) k.ins.length ic] 28)) #[] 0 (by simp) (by simp) rfl;simpa [tCells] using this
  clear h12;go_wp2_with fail
  go_ret
  rw [HZ.out];exact ⟨_,_,rfl,own_mono (own_below ho0 b2) (by omega),below_trans' (below_trans' b1 b1a) b2⟩
end Go.Proofs.YtkgoajnnkimkaaaGreat
namespace Go.Proofs.YtkgoajnnkimkaaaGreat
open Go.ChangeShapes Go.WideShapes Go.ChangeAt Go.RowKit
theorem tCells_get : ∀ (ts : List Tt) (i : Nat) (h : i < ts.length),(tCells ts)[i * 4]? = some (.int .i64 (ts[i].a : Int)) ∧ (tCells ts)[i * 4 + 1]? = some (.int .i64 (ts[i].g : Int)) ∧ (tCells ts)[i * 4 + 2]? = some (.bool ts[i].w) ∧ (tCells ts)[i * 4 + 3]? = some (.int .i64 (ts[i].h : Int))
 | t :: r,0,_=>⟨rfl,rfl,rfl,rfl⟩
 | t :: r,i + 1,h=>by
  obtain ⟨h0,h1,h2,h3⟩:=tCells_get r i (by simpa using h);rw [show (i + 1) * 4 = i * 4 + 1 + 1 + 1 + 1 from by omega];refine ⟨by simpa [tCells] using h0,?_,?_,?_⟩
  · rw [show i * 4 + 1 + 1 + 1 + 1 + 1 = (i * 4 + 1) + 1 + 1 + 1 + 1 from by omega];simpa [tCells] using h1
  · rw [show i * 4 + 1 + 1 + 1 + 1 + 2 = (i * 4 + 2) + 1 + 1 + 1 + 1 from by omega];simpa [tCells] using h2
  · rw [show i * 4 + 1 + 1 + 1 + 1 + 3 = (i * 4 + 3) + 1 + 1 + 1 + 1 from by omega];simpa [tCells] using h3
theorem Rd.touch {w : World} {B : Nat} {A : Option Addr} {ts : List Tt} (h : Rd w B A (tCells ts)) {i : Nat} (hi : i < ts.length) : ∃ ad, A = some ad ∧ (ad.add (i * 4)).block < B ∧
  w.cell? (ad.add (i * 4)) = some (.int .i64 (ts[i].a : Int)) ∧ w.cell? ⟨(ad.add (i * 4)).block,(ad.add (i * 4)).off + 1,none⟩ = some (.int .i64 (ts[i].g : Int)) ∧
  w.cell? ⟨(ad.add (i * 4)).block,(ad.add (i * 4)).off + 2,none⟩ = some (.bool ts[i].w) ∧ w.cell? ⟨(ad.add (i * 4)).block,(ad.add (i * 4)).off + 3,none⟩ = some (.int .i64 (ts[i].h : Int)):=by
 obtain ⟨h0,h1,h2,h3⟩:=tCells_get ts i hi;obtain ⟨ad,rfl,hb,c0⟩:=h _ _ h0;obtain ⟨ad',e',_,c1⟩:=h _ _ h1;cases e'
 obtain ⟨ad',e',_,c2⟩:=h _ _ h2;cases e'
 obtain ⟨ad',e',_,c3⟩:=h _ _ h3;cases e'
 rw [add_pos_eq _ _ 1 (by omega)] at c1;rw [add_pos_eq _ _ 2 (by omega)] at c2;rw [add_pos_eq _ _ 3 (by omega)] at c3;exact ⟨ad,rfl,by rw [block_of_add];exact hb,c0,c1,c2,c3⟩
end Go.Proofs.YtkgoajnnkimkaaaGreat
namespace Go.Proofs.YtkgoajnnkimkaaaGreat
open Go.ChangeShapes Go.WideShapes Go.ChangeAt Go.RowKit
structure MK (W : World) (base bo ba gm n : Nat) (ms : List Bool) (new : Bool) : Prop where
 out : W.heap[bo]? = some (.cells #[.slice (some ⟨gm,0,none⟩) n n] 87)
 again : W.heap[ba]? = some (.cells #[.bool new] 4)
 rm : W.ownsRow base 4 1 (.slice (some ⟨gm,0,none⟩) n n) n (ms.map bv)
 ne : bo ≠ ba ∧ bo ≠ gm ∧ ba ≠ gm
section
variable {W W' : World} {base bo ba gm n : Nat} {ms : List Bool} {new : Bool}
theorem MK.len (h : MK W base bo ba gm n ms new) : ms.length = n:=by have:=own_len h.rm;simpa using this
theorem MK.below (h : MK W base bo ba gm n ms new) (hb : Below W.heap.size W W') : MK W' base bo ba gm n ms new :=
 ⟨(hb.block bo (Array.getElem?_eq_some_iff.1 h.out).1).trans h.out,(hb.block ba (Array.getElem?_eq_some_iff.1 h.again).1).trans h.again,own_below h.rm hb,h.ne⟩
theorem MK.mark (h : MK W base bo ba gm n ms new) (x : Nat) : MK (W.setCell ⟨gm,x,none⟩ (.bool true)) base bo ba gm n (ms.set x true) new:=by
 obtain ⟨s1,s2⟩:=h.rm.stored x (bv true);rw [bv_set] at s1;exact ⟨set_row_other h.out (a:=⟨gm,x,none⟩) h.ne.2.1 _,set_row_other h.again (a:=⟨gm,x,none⟩) h.ne.2.2 _,s1,h.ne⟩
theorem MK.say (h : MK W base bo ba gm n ms new) (b : Bool) : MK (W.setCell ⟨ba,0,none⟩ (.bool b)) base bo ba gm n ms b :=
 ⟨set_row_other h.out (a:=⟨ba,0,none⟩) h.ne.1 _,set_row h.again 0 (.bool b),h.rm.kept (grown_set W ⟨ba,0,none⟩ _) (.inr fun e=>by injection e with e;exact h.ne.2.2 e.symm),h.ne⟩
end
theorem met1_any {base : Nat} (bo ba gm n x : Nat) (ms : List Bool) (new : Bool) (w : World) (h : MK w base bo ba gm n ms new) (hx : x < n) (hn : n ≤ 1500) :
  Calls Tryz.prog 174 #[.int .i64 x,.pointer (some ⟨bo,0,none⟩),.pointer (some ⟨ba,0,none⟩)] w fun e w'=>e = .returned (.tuple #[]) ∧ MK w' base bo ba gm n (ms.set x true) (new || !mkd ms x) ∧ Tch bo ba gm w w':=by
 have hl:=h.len;have cm:=own_at h.rm (j:=x) hx (u:=.bool (mkd ms x)) (by rw [List.getElem?_map,List.getElem?_eq_getElem (by omega),mkd_get (by omega)];rfl);have co:=(row_facts h.out).1 0 _ rfl;have ca:=(row_facts h.again).1 0 _ rfl;have fa:=(row_facts h.again).2 0;have fm:=h.rm.frozenAt x;have hm:=h.mark x;have ca2:=(row_facts hm.again).1 0 _ rfl;have fa2:=(row_facts hm.again).2 0;have y1 : (0 : Int) ≤ (x : Int):=by omega
 have y2 : (x : Int) < (n : Int):=by omega
 have HFN:=Lib.hid (hm.say true);have HT:=Lib.hid (((Tch.refl bo ba gm w).set (a:=⟨gm,x,none⟩) (.inr (.inr rfl)) (.bool true)).set (a:=⟨ba,0,none⟩) (.inr (.inl rfl)) (.bool true));have HL:=Lib.hid hl;have HH:=Lib.hid h;clear hm hl;cases hmk : mkd ms x
 ·
  rw [hmk] at cm;clear hmk h
  go_enter Tryz.func174, Tryz.ntmps174
  go_wp2_with fail
  go_end0
  refine ⟨rfl,?_,HT.out⟩;rw [show (new || !false) = true from by simp];exact HFN.out
 ·
  rw [hmk] at cm;have HE:=Lib.hid (show ms.set x true = ms from mks_antisymm (mks_set ms x) ⟨by simp,fun b hb=>by
   rw [mkd_set (by rw [HL.out];exact hx)] at hb;split at hb
   · rename_i e;subst e;exact hmk
   · exact hb⟩)
  clear hmk h
  go_enter Tryz.func174, Tryz.ntmps174
  go_wp2_with fail
  go_end0
  refine ⟨rfl,?_,Tch.refl _ _ _ _⟩;rw [HE.out,show (new || !true) = new from by simp];exact HH.out
end Go.Proofs.YtkgoajnnkimkaaaGreat
namespace Go.Proofs.YtkgoajnnkimkaaaGreat
open Go.ChangeShapes Go.WideShapes Go.ChangeAt Go.RowKit
structure MetR (k : Cd) (rs : List Nat) (ms : List Bool) : Prop where
 len : ms.length = k.ins.length
 snd : ∀ a,mkd ms a = true → MetP k a
 root : ∀ r ∈ rs,mkd ms (ent k r) = true
theorem metR0 (k : Cd) : MetR k [] (List.replicate k.ins.length false) :=
 ⟨by simp,fun a h=>by rw [mkd_replicate] at h;simp at h,fun r h=>by simp at h⟩
theorem MetR.put {k : Cd} {rs : List Nat} {ms : List Bool} (h : MetR k rs ms) (hr : Right k) {r : Nat} (hrt : RootP k r) : MetR k (rs ++ [r]) (ms.set (ent k r) true):=by
 have hel:=ent_lt hr (root_lt hr hrt);refine ⟨by simp [h.len],fun a ha=>?_,fun q hq=>?_⟩
 ·
  rw [mkd_set (by rw [h.len];exact hel)] at ha;split at ha
  · rename_i e;subst e;exact .root hrt
  · exact h.snd a ha
 ·
  rw [mkd_set (by rw [h.len];exact hel)];split
  · rfl
  ·
   rename_i e;rcases List.mem_append.1 hq with h1 | h1
   · exact h.root q h1
   · exact absurd (by rw [List.mem_singleton.1 h1]) e
theorem MetR.full {k : Cd} (hr : Right k) {ms : List Bool} (h : MetR k (listN k.procs.length (RootP k)) ms) : MetS k ms :=
 ⟨h.len,h.snd,fun r hrt=>h.root r (mem_listN.2 ⟨root_lt hr hrt,hrt⟩)⟩
structure MtR (ms0 : List Bool) (new : Bool) (ms : List Bool) : Prop where
 no : new = false → ms = ms0
 yes : new = true → unm ms < unm ms0
theorem MtR.refl (ms : List Bool) : MtR ms false ms:=⟨fun _=>rfl,fun h=>by simp at h⟩
theorem MtR.put {ms0 ms : List Bool} {new : Bool} (h : MtR ms0 new ms) {x : Nat} (hx : x < ms.length) : MtR ms0 (new || !mkd ms x) (ms.set x true):=by
 cases hm : mkd ms x
 ·
  rw [Bool.not_false,Bool.or_true];refine ⟨fun h=>by simp at h,fun _=>?_⟩;have h1:=unm_set hx hm;cases new
  · rw [← h.no rfl];omega
  · have:=h.yes rfl;omega
 ·
  have e : ms.set x true = ms:=mks_antisymm (mks_set ms x) ⟨by simp,fun b hb=>by
   rw [mkd_set hx] at hb;split at hb
   · rename_i e;subst e;exact hm
   · exact hb⟩
  rw [e,Bool.not_true,Bool.or_false];exact h
theorem MK.lt {W : World} {base bo ba gm n : Nat} {ms : List Bool} {new : Bool} (h : MK W base bo ba gm n ms new) : bo < W.heap.size ∧ ba < W.heap.size ∧ gm < W.heap.size ∧ base ≤ gm :=
 ⟨(Array.getElem?_eq_some_iff.1 h.out).1,(Array.getElem?_eq_some_iff.1 h.again).1,(own_lt h.rm).2,(own_lt h.rm).1⟩
theorem met_any {B : Nat} (g : Nat) (v : CV) (k : Cd) (w : World) (hr : Right k) (hW : WAt w B g v k) :
  Calls Tryz.prog 118 #[.pointer (some ⟨g,0,none⟩)] w (NewMarks w (markL k.ins.length (MetP k))):=by
 have hmf : ∀ (fn : Fn) (first cap : Array Value) (w : World),(Instr.makeFunc fn first cap).run Tryz.prog w = .ok (.func fn first cap) w:=fun _ _ _ _=>rfl;have hWf:=hW.full;have hkf:=hWf.code;have hins:=hr.ins;have hpl:=hr.procs;have HEL:=Lib.hid hr.entry;have HR:=Lib.hid hr;have HKT:=Lib.hid (fun W (hb : Below w.heap.size w W)=>hWf.kat.to hb);have HKC:=Lib.hid (fun W (hb : Below w.heap.size w W)=>hkf.below hb);have HNXT:=Lib.hid (fun a (ha : a < k.ins.length) W (hb : Below w.heap.size w W)=>nextIn_any g v k a W hr (hkf.below hb) (hWf.kat.to hb) ha);have HEN:=Lib.hid (fun p (hp : p < k.procs.length) W (hb : Below w.heap.size w W)=>(show Calls Tryz.prog 162 #[.agg #[.slice v.gA k.globals.length v.gc, .slice v.lA k.locks.length v.lc, .slice v.pA k.procs.length v.pc, .slice v.eA k.entry.length v.ec, .slice v.iA k.ins.length v.ic],.int .i64 (p : Int)] W fun e w'=>e = .returned (.int .i64 ((fin k p : Nat) : Int)) ∧ Below W.heap.size W w' from by
  have h1:=endOfProc_any v k p W (hkf.below hb) (by omega) (by have:=hr.entry;omega) (by omega);rw [hr.fin_eq p hp] at h1;exact h1))
 have HBB:=Lib.hid (fun W=>(show Calls Tryz.prog 102 #[.int .i64 (rootsN k : Nat)] W (NewNats W (listN k.procs.length (RootP k))) from by
  have HB:=bitsOf_nats (rootsN k) W (two60 hr (setN_lt _ _));rw [show bitsTo (rootsN k) 62 = listN k.procs.length (RootP k) from bitsTo_setN (by omega)] at HB;exact HB))
 have HRS:=Lib.hid (show ∀ r ∈ listN k.procs.length (RootP k),RootP k r from fun r hrr=>(mem_listN.1 hrr).2);have HECL:=Lib.hid (fun p (hp : p < k.procs.length) W (hb : Below w.heap.size w W)=>entry_cell hr (hkf.below hb).full hp);have HFULL:=Lib.hid (fun ms (h : MetR k (listN k.procs.length (RootP k)) ms)=>h.full hr);have HSTOP:=Lib.hid (fun ms (h : MetS k ms) hf=>h.stop hr hf);have hrl:=listN_len k.procs.length (RootP k);have h9:=hWf.roots;have h0n : 0 < k.ins.length:=(by
  have hm:=List.length_pos_of_mem hr.main;have:=hr.lt 0 hm;omega)
 obtain ⟨ai,eA⟩ : ∃ ai,v.iA = some ai:=(by
  obtain ⟨ai,A',c',eA,_⟩:=hkf.full.i.get h0n;exact ⟨ai,eA⟩)
 have HEA:=Lib.hid eA;clear eA;obtain ⟨c0,c1,c2,c3,c4⟩:=hWf.kat;clear hr hW hkf hWf;generalize rootsN k = rn at *;generalize listN k.procs.length (RootP k) = rs at *
 go_enter Tryz.func118, Tryz.ntmps118
 go_wp2_with (at_make;refine make_bools _ rfl _ _ rfl k.ins.length rfl rfl (by omega) ?_;intro w1 hown hb1;have h9':=cell_below (below_alloc0 w1 (.cells #[.slice (some ⟨w.heap.size,0,none⟩) k.ins.length k.ins.length] 87)) (cell_below hb1 h9))
 have n1:=heap_alloc_new w1 (.cells #[.slice (some ⟨w.heap.size,0,none⟩) k.ins.length k.ins.length] 87);have b1:=below_alloc0 w1 (.cells #[.slice (some ⟨w.heap.size,0,none⟩) k.ins.length k.ins.length] 87);have hbo0:=hb1.size;have hX1:=(own_lt hown).2;have hown2:=own_below hown b1;have hb2:=below_trans' hb1 b1;have hbo2 : w1.heap.size < (w1.alloc (.cells #[.slice (some ⟨w.heap.size,0,none⟩) k.ins.length k.ins.length] 87)).heap.size:=by simp
 generalize w1.alloc (.cells #[.slice (some ⟨w.heap.size,0,none⟩) k.ins.length k.ins.length] 87) = w2 at *;generalize w1.heap.size = bo at *;clear h9' h9 hown hb1 b1 c0 c1 c2 c3 c4;refine (HBB.out _).mono ?_;rintro e w3 ⟨Ab,cb,rfl,hob,hb3⟩;have n3:=(hb3.block bo hbo2).trans n1;have hown3:=own_below hown2 hb3;have hX2:=(own_lt hown2).2;have hb03:=below_trans' hb2 hb3;have hbo3 : bo < w3.heap.size:=Nat.lt_of_lt_of_le hbo2 hb3.size;have HOB:=Lib.hid (fun wr (h : Tch w.heap.size w.heap.size w.heap.size w3 wr)=>own_rd (h.own hob hX2 hX2 hX2));have HB3:=Lib.hid (fun wr (h : Tch w.heap.size w.heap.size w.heap.size w3 wr)=>hb03.trans (h.below hb03.size (Nat.le_refl _) (Nat.le_refl _) (Nat.le_refl _)));have HO3:=Lib.hid (fun wr (h : Tch w.heap.size w.heap.size w.heap.size w3 wr)=>(h.block bo hbo3 (by omega) (by omega) (by omega)).trans n3);clear n1 n3 hown2 hb2 hb3 hob hb03;go_wp2_with fail
 go_loopg [25] rs.length (fun l i wr=>∃ (j : Nat) (ms : List Bool),j ≤ rs.length ∧ l = rs.length - j ∧ i = .int .i64 j ∧ wr.ownsRow w.heap.size 4 1 (.slice (some ⟨w.heap.size,0,none⟩) k.ins.length k.ins.length) k.ins.length (ms.map bv) ∧ MetR k (rs.take j) ms ∧ Tch w.heap.size w.heap.size w.heap.size w3 wr)
 case atStart=>exact ⟨0,_,by omega,by omega,rfl,hown3,metR0 k,Tch.refl _ _ _ _⟩
 case round =>
  clear hown3;obtain ⟨j,ms,hj,rfl,rfl,ho,hLR,hT⟩:=hrel;have HLR:=Lib.hid hLR;clear hLR;have hb0:=HB3.out _ hT;have hco:=HO3.out _ hT;by_cases hlt : j < rs.length
  ·
   obtain ⟨adr,ear,_,hcr⟩:=(HOB.out _ hT).nat hlt;have HRT1:=Lib.hid (HRS.out rs[j] (List.getElem_mem hlt));have hrp:=root_lt HR.out HRT1.out;have HTK:=Lib.hid (show rs.take (j + 1) = rs.take j ++ [rs[j]] from by rw [List.take_succ_eq_append_getElem hlt]);generalize rs[j] = r at *;subst ear;have hpe : r < k.entry.length:=by have:=HEL.out;omega
   obtain ⟨c0,c1,c2,c3,c4⟩:=HKT.out _ hb0;obtain ⟨ade,ee,hbe,hce⟩:=HECL.out r hrp _ hb0;rw [ee] at c3;clear ee;have coc:=(row_facts hco).1 0 _ rfl;have hel:=ent_lt HR.out hrp;obtain ⟨u,hu⟩:=own_has ho (j:=ent k r) (by omega);have fz:=ho.frozenAt (ent k r);have z1 : (0 : Int) ≤ (j : Int):=by omega
   have z2 : (j : Int) < (rs.length : Int):=by omega
   have y1 : (0 : Int) ≤ (r : Int):=by omega
   have y2 : (r : Int) < (k.entry.length : Int):=by omega
   have x1 : (0 : Int) ≤ (ent k r : Int):=by omega
   have x2 : (ent k r : Int) < (k.ins.length : Int):=by omega
   go_wp2_with fail
   go_still_tail 10,(by kernel_rfl)
   change wpList _ _ _ _ _ wr.drew
   have hoD : wr.drew.ownsRow w.heap.size 4 1 (.slice (some ⟨w.heap.size,0,none⟩) k.ins.length k.ins.length) k.ins.length (ms.map bv):=ho;have fzD : wr.drew.frozen? ⟨w.heap.size,ent k r,none⟩ = false:=fz;have huD : wr.drew.cell? ⟨w.heap.size,ent k r,none⟩ = some u:=hu;have hTD:=(hT.drew).set (a:=⟨w.heap.size,ent k r,none⟩) (.inl rfl) (.bool true);clear c0 c1 c2 c3 c4 hce hcr fz hu coc hco ho hT;generalize wr.drew = wd at *;go_wp2_with fail
   obtain ⟨s1,s2⟩:=hoD.stored (ent k r) (bv true);rw [bv_set] at s1;go_roundg (rs.length - (j + 1))
   case measure=>omega
   case rel=>exact ⟨j + 1,ms.set (ent k r) true,by omega,rfl,by go_num,s1,by rw [HTK.out];exact HLR.out.put HR.out HRT1.out,hTD⟩
  ·
   obtain rfl : j = rs.length:=by omega
   have hlr:=HLR.out;rw [List.take_length] at hlr;have HS0:=Lib.hid (HFULL.out ms hlr);clear hlr HLR;have bA:=below_alloc0 wr (.cells #[.bool true] 4);have hbo4 : bo < wr.heap.size:=(Array.getElem?_eq_some_iff.1 hco).1;have hX4:=(own_lt ho).2;have HMK0:=Lib.hid (show MK (wr.alloc (.cells #[.bool true] 4)) w.heap.size bo wr.heap.size w.heap.size k.ins.length ms true from ⟨(bA.block bo hbo4).trans hco,heap_alloc_new wr _,own_below ho bA,by omega⟩);have HB0:=Lib.hid (below_trans' hb0 bA);have hle : w.heap.size ≤ wr.heap.size:=hb0.size;clear hco hT ho bA hb0;go_wp2_with fail
   go_loopg [6] (2 * unm ms + 1) (fun l pa wr=>∃ (ba : Nat) (ms : List Bool) (new : Bool),pa = .pointer (some ⟨ba,0,none⟩) ∧ MK wr w.heap.size bo ba w.heap.size k.ins.length ms new ∧ MetS k ms ∧ (new = false → (List.range k.ins.length).foldl (mplace k) ms = ms) ∧ l = 2 * unm ms + (if new then 1 else 0) ∧ w.heap.size ≤ ba ∧ Below w.heap.size w wr)
   case atStart=>exact ⟨_,ms,true,rfl,HMK0.out,HS0.out,by simp,rfl,hle,HB0.out⟩
   case round =>
    clear HMK0 HB0 HS0 hle;obtain ⟨ba,ms0,new,rfl,hM,hS,hfx,rfl,hba0,hb⟩:=hrel;have HFX:=Lib.hid hfx;have HS:=Lib.hid hS;clear hfx hS;have ca:=(row_facts hM.again).1 0 _ rfl;have fa:=(row_facts hM.again).2 0;have co:=(row_facts hM.out).1 0 _ rfl;cases new
    ·
     have hfin:=HSTOP.out _ HS.out (HFX.out rfl);have HFI:=Lib.hid (show NewMarks w (markL k.ins.length (MetP k)) (.returned (.slice (some ⟨w.heap.size,0,none⟩) k.ins.length k.ins.length)) wr from by
      rw [← hfin];exact ⟨some ⟨w.heap.size,0,none⟩,k.ins.length,by rw [hM.len],by rw [hM.len];exact hM.rm,hb⟩)
     clear hfin;go_wp2_with fail
     go_ret
     exact HFI.out
    ·
     have hMs:=hM.say false;have hbs : Below w.heap.size w (wr.setCell ⟨ba,0,none⟩ (.bool false)):=hb.trans ((((Tch.refl bo ba w.heap.size wr).set (a:=⟨ba,0,none⟩) (.inr (.inl rfl)) (.bool false))).below hb.size hbo0 hba0 (Nat.le_refl _));obtain ⟨c0,c1,c2,c3,c4⟩:=HKT.out _ hbs;rw [HEA.out] at c4;clear HFX hM hb co;go_wp2_with fail
     clear ca fa c0 c1 c2 c3 c4;generalize wr.setCell ⟨ba,0,none⟩ (.bool false) = wj at *;obtain ⟨wo,rfl⟩ : ∃ wo : World,wo = wr:=⟨_,rfl⟩
     go_loopg [48] k.ins.length (fun l i wr=>∃ (j : Nat) (ms : List Bool) (nw : Bool),j ≤ k.ins.length ∧ l = k.ins.length - j ∧ i = .int .i64 j ∧ MK wr w.heap.size bo ba w.heap.size k.ins.length ms nw ∧ MetS k ms ∧ MtR ms0 nw ms ∧ ms = (List.range j).foldl (mplace k) ms0 ∧ Below w.heap.size w wr)
     case atStart=>exact ⟨0,ms0,false,by omega,by omega,rfl,hMs,HS.out,MtR.refl _,rfl,hbs⟩
     case round =>
      clear hMs HS hbs;obtain ⟨j,ms,nw0,hj,rfl,rfl,hM,hS,hP,hfo,hb⟩:=hrel;have HFO:=Lib.hid hfo;have HS:=Lib.hid hS;have HP:=Lib.hid hP;clear hfo hS hP;by_cases hlt : j < k.ins.length
      ·
       obtain ⟨ai',A',c',eA',hbi,k0,k1,k2,k3,k4,k5,k6,_⟩:=(HKC.out _ hb).full.i.get hlt;rw [HEA.out] at eA';injection eA' with eA';subst eA';have cm:=own_at hM.rm (j:=j) hlt (u:=.bool (mkd ms j)) (by rw [List.getElem?_map,List.getElem?_eq_getElem (by rw [hM.len];exact hlt),mkd_get (by rw [hM.len];exact hlt)];rfl);have co:=(row_facts hM.out).1 0 _ rfl;rw [opN_eq hlt] at k0;rw [argN_eq HR.out hlt] at k1;have z1 : (0 : Int) ≤ (j : Int):=by omega
       have z2 : (j : Int) < (k.ins.length : Int):=by omega
       cases hmk : mkd ms j
       ·
        rw [hmk] at cm;have HEQ:=Lib.hid (show mplace k ms j = ms from by unfold mplace;rw [if_neg (by rw [hmk];simp)]);clear hmk;have bA:=below_alloc0 wr (.cells #[.int .i64 (opN k j),.int .i64 (argN k j),.int .i64 k.ins[j].term.kind,.int .i64 k.ins[j].term.num,.string k.ins[j].term.name,.slice A' k.ins[j].term.kids.length c',.int .i64 k.ins[j].to] 52);have hMa:=hM.below bA;have hba:=below_trans' hb bA;have cm':=cell_below bA cm;have co':=cell_below bA co;clear bA;go_wp2_with fail
        go_roundg (k.ins.length - (j + 1))
        case measure=>omega
        case rel=>exact ⟨j + 1,ms,nw0,by omega,rfl,by go_num,hMa,HS.out,HP.out,by rw [List.range_succ,List.foldl_append,← HFO.out];exact HEQ.out.symm,hba⟩
       ·
        rw [hmk] at cm;have HMT:=Lib.hid (HS.out.snd j hmk);by_cases h4 : opN k j = 4
        ·
         have hpp:=argN_lt HR.out hlt (.inl h4);have hel:=ent_lt HR.out hpp;have hfl:=HR.out.lt _ hpp;have hpe : argN k j < k.entry.length:=by have:=HEL.out;omega
         have y1 : (0 : Int) ≤ (argN k j : Int):=by omega
         have y2 : (argN k j : Int) < (k.entry.length : Int):=by omega
         have HS1:=Lib.hid (HS.out.step (MetP.call HMT.out h4));have HP1:=Lib.hid (HP.out.put (x:=ent k (argN k j)) (by rw [hM.len];exact hel));have HEQ0:=Lib.hid (show mkd (mstep ms (ent k (argN k j))) (fin k (argN k j) - 1) = false → mplace k ms j = mstep ms (ent k (argN k j)) from fun h=>by unfold mplace;rw [if_pos hmk,if_pos h4,if_neg (by rw [h];simp)]);have HEQ1:=Lib.hid (show mkd (mstep ms (ent k (argN k j))) (fin k (argN k j) - 1) = true → (nextL k j).foldl mstep (mstep ms (ent k (argN k j))) = mplace k ms j from fun h=>by unfold mplace;rw [if_pos hmk,if_pos h4,if_pos h]);have HNX1:=Lib.hid (show mkd (mstep ms (ent k (argN k j))) (fin k (argN k j) - 1) = true → ∀ y ∈ nextL k j,y < k.ins.length ∧ MetP k y from fun h y hy=>⟨(nextL_in HR.out hlt hy).1,.back HMT.out h4 (HS1.out.snd _ h) hy⟩);rw [h4] at k0;clear hmk h4 HS HP;have bA:=below_alloc0 wr (.cells #[.int .i64 4,.int .i64 (argN k j),.int .i64 k.ins[j].term.kind,.int .i64 k.ins[j].term.num,.string k.ins[j].term.name,.slice A' k.ins[j].term.kids.length c',.int .i64 k.ins[j].to] 52);have hba:=below_trans' hb bA;have hMa:=hM.below bA;have cm':=cell_below bA cm;have co':=cell_below bA co;have ca1:=box_cell wr #[.int .i64 4,.int .i64 (argN k j),.int .i64 k.ins[j].term.kind,.int .i64 k.ins[j].term.num,.string k.ins[j].term.name,.slice A' k.ins[j].term.kids.length c',.int .i64 k.ins[j].to] 52 1 rfl;obtain ⟨c0,c1,c2,c3,c4⟩:=HKT.out _ hba;obtain ⟨ade,ee,hbe,hce⟩:=HECL.out (argN k j) hpp _ hba;rw [ee] at c3;have hbx : wr.heap.size < (wr.alloc (.cells #[.int .i64 4,.int .i64 (argN k j),.int .i64 k.ins[j].term.kind,.int .i64 k.ins[j].term.num,.string k.ins[j].term.name,.slice A' k.ins[j].term.kids.length c',.int .i64 k.ins[j].to] 52)).heap.size:=by simp
         have hlw:=hM.lt;clear bA ee;go_wp2_with fail
         clear cm co k0 k1 k2 k3 k4 k5 k6 hb hM cm';generalize wr.alloc (.cells #[.int .i64 4,.int .i64 (argN k j),.int .i64 k.ins[j].term.kind,.int .i64 k.ins[j].term.num,.string k.ins[j].term.name,.slice A' k.ins[j].term.kids.length c',.int .i64 k.ins[j].to] 52) = wa at *;generalize wr.heap.size = bx at *;go_still_tail 10,(by kernel_rfl)
         change wpList _ _ _ _ _ wa.drew
         have hMD:=hMa.below (Below.refl wa.heap.size wa).drew;have HPT:=Lib.hid (met1_any bo ba w.heap.size k.ins.length (ent k (argN k j)) ms nw0 wa.drew hMD hel hins);have caD : wa.drew.cell? ⟨bx,1,none⟩ = some (.int .i64 (argN k j : Int)):=ca1;have hbD:=hba.drew;have hbxD : bx < wa.drew.heap.size:=hbx;clear ca1 hba hMa hMD c0 c1 c2 c3 c4 hce co' hbx;generalize wa.drew = wd at *;go_wp2_with fail
         refine HPT.out.mono ?_;rintro e w5 ⟨rfl,hM5,hT5⟩;have ca5 : w5.cell? ⟨bx,1,none⟩ = some (.int .i64 (argN k j : Int)):=(World.cell?_of_block (hT5.block bx hbxD (by omega) (by omega) (by omega))).trans caD;have hM5 : MK w5 w.heap.size bo ba w.heap.size k.ins.length (mstep ms (ent k (argN k j))) (nw0 || !mkd ms (ent k (argN k j))):=hM5;have HP1:=Lib.hid (show MtR ms0 (nw0 || !mkd ms (ent k (argN k j))) (mstep ms (ent k (argN k j))) from HP1.out);have hb05:=hbD.trans (hT5.below hbD.size hbo0 hba0 (Nat.le_refl _));clear HPT caD hT5 hbD hbxD;generalize mstep ms (ent k (argN k j)) = ms1 at *;generalize (nw0 || !mkd ms (ent k (argN k j))) = nw1 at *;obtain ⟨d0,d1,d2,d3,d4⟩:=HKT.out _ hb05;have co5:=(row_facts hM5.out).1 0 _ rfl;have hfe : fin k (argN k j) - 1 < k.ins.length:=by omega
         have hsub : ((fin k (argN k j) : Nat) : Int) - 1 = ((fin k (argN k j) - 1 : Nat) : Int):=by omega
         have cm5:=own_at hM5.rm (j:=fin k (argN k j) - 1) hfe (u:=.bool (mkd ms1 (fin k (argN k j) - 1))) (by rw [List.getElem?_map,List.getElem?_eq_getElem (by rw [hM5.len];exact hfe),mkd_get (by rw [hM5.len];exact hfe)];rfl);have hwr : IntKind.i64.wrap ((fin k (argN k j) - 1 : Nat) : Int) = ((fin k (argN k j) - 1 : Nat) : Int):=(by
          generalize fin k (argN k j) - 1 = q at hfe;rw [IntKind.wrap_i64];omega)
         have y3 : (0 : Int) ≤ ((fin k (argN k j) - 1 : Nat) : Int):=by omega
         have y4 : ((fin k (argN k j) - 1 : Nat) : Int) < (k.ins.length : Int):=by omega
         cases hme : mkd ms1 (fin k (argN k j) - 1)
         ·
          rw [hme] at cm5;have HEQ:=Lib.hid (HEQ0.out hme);clear hme;go_wp2_with fail
          refine wp_region_held_drew (S:=fun w'=>Below w5.heap.size w5 w') (by kernel_rfl) ((Below.refl _ _).drew) (fun hHeld=>?_);first | refine hs_ 0 ?_ | (refine hr_ 0 ?_ ?_ ?_;rotate_left;(intro W hW;obtain ⟨f0,f1,f2,f3,f4,f5,f6,f7⟩:=cb8 hW d0 d1 d2 d3 d4 co5 cm5 ca5;go_simp;try with_reducible rfl))
          first | refine hs_ 1 ?_ | (refine hr_ 1 ?_ ?_ ?_;rotate_left;(intro W hW;obtain ⟨f0,f1,f2,f3,f4,f5,f6,f7⟩:=cb8 hW d0 d1 d2 d3 d4 co5 cm5 ca5;go_simp;try with_reducible rfl))
          first | refine hs_ 2 ?_ | (refine hr_ 2 ?_ ?_ ?_;rotate_left;(intro W hW;obtain ⟨f0,f1,f2,f3,f4,f5,f6,f7⟩:=cb8 hW d0 d1 d2 d3 d4 co5 cm5 ca5;go_simp;try with_reducible rfl))
          first | refine hs_ 3 ?_ | (refine hr_ 3 ?_ ?_ ?_;rotate_left;(intro W hW;obtain ⟨f0,f1,f2,f3,f4,f5,f6,f7⟩:=cb8 hW d0 d1 d2 d3 d4 co5 cm5 ca5;go_simp;try with_reducible rfl))
          first | refine hs_ 4 ?_ | (refine hr_ 4 ?_ ?_ ?_;rotate_left;(intro W hW;obtain ⟨f0,f1,f2,f3,f4,f5,f6,f7⟩:=cb8 hW d0 d1 d2 d3 d4 co5 cm5 ca5;go_simp;try with_reducible rfl))
          first | refine hs_ 5 ?_ | (refine hr_ 5 ?_ ?_ ?_;rotate_left;(intro W hW;obtain ⟨f0,f1,f2,f3,f4,f5,f6,f7⟩:=cb8 hW d0 d1 d2 d3 d4 co5 cm5 ca5;go_simp;try with_reducible rfl))
          first | refine hs_ 6 ?_ | (refine hr_ 6 ?_ ?_ ?_;rotate_left;(intro W hW;obtain ⟨f0,f1,f2,f3,f4,f5,f6,f7⟩:=cb8 hW d0 d1 d2 d3 d4 co5 cm5 ca5;go_simp;try with_reducible rfl))
          refine ho_ 7 fun K hK=>?_;go_simp
          refine (HEN.out _ hpp _ (below_trans' hb05 hHeld)).mono ?_;rintro e w6 ⟨rfl,hb6⟩;refine hk_ hK (below_trans' hHeld hb6) fun hHeld=>?_;clear hK K;first | refine hs_ 8 ?_ | (refine hr_ 8 ?_ ?_ ?_;rotate_left;(intro W hW;obtain ⟨f0,f1,f2,f3,f4,f5,f6,f7⟩:=cb8 hW d0 d1 d2 d3 d4 co5 cm5 ca5;go_simp;try with_reducible rfl))
          first | refine hs_ 9 ?_ | (refine hr_ 9 ?_ ?_ ?_;rotate_left;(intro W hW;obtain ⟨f0,f1,f2,f3,f4,f5,f6,f7⟩:=cb8 hW d0 d1 d2 d3 d4 co5 cm5 ca5;go_simp;try with_reducible rfl))
          first | refine hs_ 10 ?_ | (refine hr_ 10 ?_ ?_ ?_;rotate_left;(intro W hW;obtain ⟨f0,f1,f2,f3,f4,f5,f6,f7⟩:=cb8 hW d0 d1 d2 d3 d4 co5 cm5 ca5;go_simp;try with_reducible rfl))
          first | refine hs_ 11 ?_ | (refine hr_ 11 ?_ ?_ ?_;rotate_left;(intro W hW;obtain ⟨f0,f1,f2,f3,f4,f5,f6,f7⟩:=cb8 hW d0 d1 d2 d3 d4 co5 cm5 ca5;go_simp;try with_reducible rfl))
          refine wpAnyH_done (by kernel_rfl) ?_ _;clear d0 d1 d2 d3 d4 co5 cm5 ca5;go_wp2_with fail
          go_roundg (k.ins.length - (j + 1))
          case measure=>omega
          case rel=>exact ⟨j + 1,ms1,nw1,by omega,rfl,by go_num,hM5.below hHeld,HS1.out,HP1.out,by rw [List.range_succ,List.foldl_append,← HFO.out];exact HEQ.out.symm,below_trans' hb05 hHeld⟩
         ·
          rw [hme] at cm5;have HEQ:=Lib.hid (HEQ1.out hme);have HNX:=Lib.hid (HNX1.out hme);clear hme HEQ0 HEQ1 HNX1;go_wp2_with fail
          refine wp_region_held_drew (S:=fun w'=>Below w5.heap.size w5 w') (by kernel_rfl) ((Below.refl _ _).drew) (fun hHeld=>?_);first | refine hs_ 0 ?_ | (refine hr_ 0 ?_ ?_ ?_;rotate_left;(intro W hW;obtain ⟨f0,f1,f2,f3,f4,f5,f6,f7⟩:=cb8 hW d0 d1 d2 d3 d4 co5 cm5 ca5;go_simp;try with_reducible rfl))
          first | refine hs_ 1 ?_ | (refine hr_ 1 ?_ ?_ ?_;rotate_left;(intro W hW;obtain ⟨f0,f1,f2,f3,f4,f5,f6,f7⟩:=cb8 hW d0 d1 d2 d3 d4 co5 cm5 ca5;go_simp;try with_reducible rfl))
          first | refine hs_ 2 ?_ | (refine hr_ 2 ?_ ?_ ?_;rotate_left;(intro W hW;obtain ⟨f0,f1,f2,f3,f4,f5,f6,f7⟩:=cb8 hW d0 d1 d2 d3 d4 co5 cm5 ca5;go_simp;try with_reducible rfl))
          first | refine hs_ 3 ?_ | (refine hr_ 3 ?_ ?_ ?_;rotate_left;(intro W hW;obtain ⟨f0,f1,f2,f3,f4,f5,f6,f7⟩:=cb8 hW d0 d1 d2 d3 d4 co5 cm5 ca5;go_simp;try with_reducible rfl))
          first | refine hs_ 4 ?_ | (refine hr_ 4 ?_ ?_ ?_;rotate_left;(intro W hW;obtain ⟨f0,f1,f2,f3,f4,f5,f6,f7⟩:=cb8 hW d0 d1 d2 d3 d4 co5 cm5 ca5;go_simp;try with_reducible rfl))
          first | refine hs_ 5 ?_ | (refine hr_ 5 ?_ ?_ ?_;rotate_left;(intro W hW;obtain ⟨f0,f1,f2,f3,f4,f5,f6,f7⟩:=cb8 hW d0 d1 d2 d3 d4 co5 cm5 ca5;go_simp;try with_reducible rfl))
          first | refine hs_ 6 ?_ | (refine hr_ 6 ?_ ?_ ?_;rotate_left;(intro W hW;obtain ⟨f0,f1,f2,f3,f4,f5,f6,f7⟩:=cb8 hW d0 d1 d2 d3 d4 co5 cm5 ca5;go_simp;try with_reducible rfl))
          refine ho_ 7 fun K hK=>?_;go_simp
          refine (HEN.out _ hpp _ (below_trans' hb05 hHeld)).mono ?_;rintro e w6 ⟨rfl,hb6⟩;refine hk_ hK (below_trans' hHeld hb6) fun hHeld=>?_;clear hK K;first | refine hs_ 8 ?_ | (refine hr_ 8 ?_ ?_ ?_;rotate_left;(intro W hW;obtain ⟨f0,f1,f2,f3,f4,f5,f6,f7⟩:=cb8 hW d0 d1 d2 d3 d4 co5 cm5 ca5;go_simp;try with_reducible rfl))
          first | refine hs_ 9 ?_ | (refine hr_ 9 ?_ ?_ ?_;rotate_left;(intro W hW;obtain ⟨f0,f1,f2,f3,f4,f5,f6,f7⟩:=cb8 hW d0 d1 d2 d3 d4 co5 cm5 ca5;go_simp;try with_reducible rfl))
          first | refine hs_ 10 ?_ | (refine hr_ 10 ?_ ?_ ?_;rotate_left;(intro W hW;obtain ⟨f0,f1,f2,f3,f4,f5,f6,f7⟩:=cb8 hW d0 d1 d2 d3 d4 co5 cm5 ca5;go_simp;try with_reducible rfl))
          first | refine hs_ 11 ?_ | (refine hr_ 11 ?_ ?_ ?_;rotate_left;(intro W hW;obtain ⟨f0,f1,f2,f3,f4,f5,f6,f7⟩:=cb8 hW d0 d1 d2 d3 d4 co5 cm5 ca5;go_simp;try with_reducible rfl))
          refine wpAnyH_done (by kernel_rfl) ?_ _;have hMa:=hM5.below hHeld;have hba:=below_trans' hb05 hHeld;have HSa:=Lib.hid HS1.out;have HPa:=Lib.hid HP1.out;clear d0 d1 d2 d3 d4 co5 cm5 ca5 hM5 hHeld hb05 HS1 HP1;go_wp2_with fail
          refine (HNXT.out j hlt _ hba).mono ?_;rintro e w9 ⟨An,cn,rfl,hon,hb9⟩;have hb09:=below_trans' hba hb9;have HML9:=Lib.hid hMa.lt;have hM9:=hMa.below hb9;have hnl:=nextL_len k j;have HON:=Lib.hid (fun W (h : Tch bo ba w.heap.size w9 W)=>own_rd (h.own hon HML9.out.1 HML9.out.2.1 HML9.out.2.2.1));have HB9:=Lib.hid (fun W (h : Tch bo ba w.heap.size w9 W)=>hb09.trans (h.below hb09.size hbo0 hba0 (Nat.le_refl _)));generalize nextL k j = ns at *;clear hb9 hMa hba hon hb09;go_wp2_with fail
          obtain ⟨wo2,rfl⟩ : ∃ wo2 : World,wo2 = wr:=⟨_,rfl⟩
          go_loopg [88] ns.length (fun l i wr=>∃ (m : Nat) (t : List Bool) (nw : Bool),m ≤ ns.length ∧ l = ns.length - m ∧ i = .int .i64 m ∧ MK wr w.heap.size bo ba w.heap.size k.ins.length t nw ∧ MetS k t ∧ MtR ms0 nw t ∧ t = (ns.take m).foldl mstep ms1 ∧ Tch bo ba w.heap.size w9 wr)
          case atStart=>exact ⟨0,ms1,nw1,by omega,by omega,rfl,hM9,HSa.out,HPa.out,rfl,Tch.refl _ _ _ _⟩
          case round =>
           clear hM9;obtain ⟨m,t,nw,hm,rfl,rfl,hM2,hS2,hP2,ht,hT2⟩:=hrel;have HTT:=Lib.hid ht;have HS2:=Lib.hid hS2;have HP2:=Lib.hid hP2;clear ht hS2 hP2;by_cases hltm : m < ns.length
           ·
            obtain ⟨adn,ean,_,hcn⟩:=(HON.out _ hT2).nat hltm;obtain ⟨hxl,hmet⟩:=HNX.out ns[m] (List.getElem_mem hltm);have HMT:=Lib.hid hmet;clear hmet;have HST:=Lib.hid (fold_take mstep ns ms1 hltm);generalize ns[m] = y at *;subst ean;have HPT:=Lib.hid (met1_any bo ba w.heap.size k.ins.length y t nw wr hM2 hxl hins);have HS3:=Lib.hid (HS2.out.step HMT.out);have HP3:=Lib.hid (HP2.out.put (x:=y) (by rw [HS2.out.len];exact hxl));have z1 : (0 : Int) ≤ (m : Int):=by omega
            have z2 : (m : Int) < (ns.length : Int):=by omega
            clear hM2;go_wp2_with fail
            refine HPT.out.mono ?_;rintro e w10 ⟨rfl,hM3,hT3⟩;go_wp2_with fail
            go_roundg (ns.length - (m + 1))
            case measure=>omega
            case rel=>exact ⟨m + 1,t.set y true,nw || !mkd t y,by omega,rfl,by go_num,hM3,HS3.out,HP3.out,by rw [HST.out,← HTT.out];rfl,hT2.trans hT3⟩
           ·
            obtain rfl : m = ns.length:=by omega
            have hb0:=HB9.out _ hT2;have HMP:=Lib.hid (show t = (List.range (j + 1)).foldl (mplace k) ms0 from by
             rw [List.range_succ,List.foldl_append,← HFO.out];exact (by rw [HTT.out,List.take_length];exact HEQ.out))
            go_wp2_with fail
            go_roundg (k.ins.length - (j + 1))
            case measure=>omega
            case rel=>exact ⟨j + 1,t,nw,by omega,rfl,by go_num,hM2,HS2.out,HP2.out,HMP.out,hb0⟩
        ·
         have HEQ:=Lib.hid (show (nextL k j).foldl mstep ms = mplace k ms j from by unfold mplace;rw [if_pos hmk,if_neg h4]);have HNX:=Lib.hid (show ∀ y ∈ nextL k j,y < k.ins.length ∧ MetP k y from fun y hy=>⟨(nextL_in HR.out hlt hy).1,.next HMT.out h4 hy⟩);have e4 : (opN k j == 4) = false:=by simpa using h4
         have bA:=below_alloc0 wr (.cells #[.int .i64 (opN k j),.int .i64 (argN k j),.int .i64 k.ins[j].term.kind,.int .i64 k.ins[j].term.num,.string k.ins[j].term.name,.slice A' k.ins[j].term.kids.length c',.int .i64 k.ins[j].to] 52);have hMa:=hM.below bA;have hba:=below_trans' hb bA;have cm':=cell_below bA cm;have co':=cell_below bA co;have HSa:=HS;have HPa:=HP;clear hmk h4 bA hb;go_wp2_with fail
         clear cm co k0 k1 k2 k3 k4 k5 k6 hM cm' co' e4;generalize wr.alloc (.cells #[.int .i64 (opN k j),.int .i64 (argN k j),.int .i64 k.ins[j].term.kind,.int .i64 k.ins[j].term.num,.string k.ins[j].term.name,.slice A' k.ins[j].term.kids.length c',.int .i64 k.ins[j].to] 52) = wa at *;refine (HNXT.out j hlt _ hba).mono ?_;rintro e w9 ⟨An,cn,rfl,hon,hb9⟩;have hb09:=below_trans' hba hb9;have HML9:=Lib.hid hMa.lt;have hM9:=hMa.below hb9;have hnl:=nextL_len k j;have HON:=Lib.hid (fun W (h : Tch bo ba w.heap.size w9 W)=>own_rd (h.own hon HML9.out.1 HML9.out.2.1 HML9.out.2.2.1));have HB9:=Lib.hid (fun W (h : Tch bo ba w.heap.size w9 W)=>hb09.trans (h.below hb09.size hbo0 hba0 (Nat.le_refl _)));generalize nextL k j = ns at *;clear hb9 hMa hba hon hb09;go_wp2_with fail
         obtain ⟨wo2,rfl⟩ : ∃ wo2 : World,wo2 = wr:=⟨_,rfl⟩
         go_loopg [88] ns.length (fun l i wr=>∃ (m : Nat) (t : List Bool) (nw : Bool),m ≤ ns.length ∧ l = ns.length - m ∧ i = .int .i64 m ∧ MK wr w.heap.size bo ba w.heap.size k.ins.length t nw ∧ MetS k t ∧ MtR ms0 nw t ∧ t = (ns.take m).foldl mstep ms ∧ Tch bo ba w.heap.size w9 wr)
         case atStart=>exact ⟨0,ms,nw0,by omega,by omega,rfl,hM9,HSa.out,HPa.out,rfl,Tch.refl _ _ _ _⟩
         case round =>
          clear hM9;obtain ⟨m,t,nw,hm,rfl,rfl,hM2,hS2,hP2,ht,hT2⟩:=hrel;have HTT:=Lib.hid ht;have HS2:=Lib.hid hS2;have HP2:=Lib.hid hP2;clear ht hS2 hP2;by_cases hltm : m < ns.length
          ·
           obtain ⟨adn,ean,_,hcn⟩:=(HON.out _ hT2).nat hltm;obtain ⟨hxl,hmet⟩:=HNX.out ns[m] (List.getElem_mem hltm);have HMT:=Lib.hid hmet;clear hmet;have HST:=Lib.hid (fold_take mstep ns ms hltm);generalize ns[m] = y at *;subst ean;have HPT:=Lib.hid (met1_any bo ba w.heap.size k.ins.length y t nw wr hM2 hxl hins);have HS3:=Lib.hid (HS2.out.step HMT.out);have HP3:=Lib.hid (HP2.out.put (x:=y) (by rw [HS2.out.len];exact hxl));have z1 : (0 : Int) ≤ (m : Int):=by omega
           have z2 : (m : Int) < (ns.length : Int):=by omega
           clear hM2;go_wp2_with fail
           refine HPT.out.mono ?_;rintro e w10 ⟨rfl,hM3,hT3⟩;go_wp2_with fail
           go_roundg (ns.length - (m + 1))
           case measure=>omega
           case rel=>exact ⟨m + 1,t.set y true,nw || !mkd t y,by omega,rfl,by go_num,hM3,HS3.out,HP3.out,by rw [HST.out,← HTT.out];rfl,hT2.trans hT3⟩
          ·
           obtain rfl : m = ns.length:=by omega
           have hb0:=HB9.out _ hT2;have HMP:=Lib.hid (show t = (List.range (j + 1)).foldl (mplace k) ms0 from by
            rw [List.range_succ,List.foldl_append,← HFO.out];exact (by rw [HTT.out,List.take_length];exact HEQ.out))
           go_wp2_with fail
           go_roundg (k.ins.length - (j + 1))
           case measure=>omega
           case rel=>exact ⟨j + 1,t,nw,by omega,rfl,by go_num,hM2,HS2.out,HP2.out,HMP.out,hb0⟩
      ·
       obtain rfl : j = k.ins.length:=by omega
       have ca:=(row_facts hM.again).1 0 _ rfl;have bA:=below_alloc0 wr (.cells #[.bool nw0] 4);have hbo4:=hM.lt;have HMK0:=Lib.hid (show MK (wr.alloc (.cells #[.bool nw0] 4)) w.heap.size bo wr.heap.size w.heap.size k.ins.length ms nw0 from ⟨(bA.block bo hbo4.1).trans hM.out,heap_alloc_new wr _,own_below hM.rm bA,by omega⟩);have HB0:=Lib.hid (below_trans' hb bA);have hle : w.heap.size ≤ wr.heap.size:=hb.size;clear hM hb bA;go_wp2_with fail
       go_roundg (2 * unm ms + (if nw0 then 1 else 0))
       case measure =>
        cases nw0
        · rw [HP.out.no rfl];simp
        · have:=HP.out.yes rfl;simp;omega
       case rel=>exact ⟨_,ms,nw0,rfl,HMK0.out,HS.out,fun h=>by have h1:=HP.out.no h;have h2:=HFO.out;rw [h1] at h2 ⊢;exact h2.symm,rfl,hle,HB0.out⟩
end Go.Proofs.YtkgoajnnkimkaaaGreat
namespace Go.Proofs.YtkgoajnnkimkaaaGreat
open Go.ChangeShapes Go.WideShapes Go.ChangeAt Go.RowKit
def Made2 (W : World) (v : CV) (k : Cd) (p : Value) (w' : World) : Prop :=
 ∃ g gm gx,p = .pointer (some ⟨g,0,none⟩) ∧ LK w' W.heap.size g gm gx v k (List.replicate k.ins.length false) (List.replicate k.ins.length 0) true ∧ Below W.heap.size W w'
theorem own_bools {W : World} {g n base : Nat} (h : W.heap[g]? = some (.cells (madeCells #[.bool false] n) 4)) (hb : base ≤ g) (hn : n ≤ 1099511627776) : W.ownsRow base 4 1 (.slice (some ⟨g,0,none⟩) n n) n ((List.replicate n false).map bv):=by
 refine ⟨by simp,.inr ⟨g,n,_,rfl,hb,h,Nat.le_refl _,by unfold maxLen;omega,by simp [size_madeCells],?_⟩⟩;rw [toList_madeCells_one,Nat.mul_one,List.take_of_length_le (by simp),List.map_replicate];rfl
theorem made2_of {W W1 W2 W3 : World} {v : CV} {k : Cd} {gm gx : Nat} {M1 M2 : Obj} (hn : k.ins.length ≤ 1500) (e1 : W1 = W.alloc M1) (e2 : W2 = W1.alloc M2)
  (hs : (gm = W.heap.size ∧ gx = W.heap.size + 1 ∧ M1 = .cells (madeCells #[.bool false] k.ins.length) 4 ∧ M2 = .cells (madeCells #[.int .i64 0] k.ins.length) 3) ∨ (gx = W.heap.size ∧ gm = W.heap.size + 1 ∧ M2 = .cells (madeCells #[.bool false] k.ins.length) 4 ∧ M1 = .cells (madeCells #[.int .i64 0] k.ins.length) 3))
  (e3 : W3 = W2.alloc (.cells #[.slice v.gA k.globals.length v.gc, .slice v.lA k.locks.length v.lc, .slice v.pA k.procs.length v.pc, .slice v.eA k.entry.length v.ec, .slice v.iA k.ins.length v.ic,.slice (some ⟨gm,0,none⟩) k.ins.length k.ins.length,.slice (some ⟨gx,0,none⟩) k.ins.length k.ins.length,.bool true] 100)) :
  Made2 W v k (.pointer (some ⟨W.heap.size + 1 + 1,0,none⟩)) W3.drew:=by
 subst e1 e2 e3;have n1:=heap_alloc_new W M1;have b1:=below_alloc0 W M1;have s1 : (W.alloc M1).heap.size = W.heap.size + 1:=by simp
 generalize W.alloc M1 = W1 at *;have n2:=heap_alloc_new W1 M2;have b2:=below_alloc0 W1 M2;have s2 : (W1.alloc M2).heap.size = W.heap.size + 1 + 1:=by simp [s1]
 generalize W1.alloc M2 = W2 at *;have n3:=heap_alloc_new W2 (.cells #[.slice v.gA k.globals.length v.gc, .slice v.lA k.locks.length v.lc, .slice v.pA k.procs.length v.pc, .slice v.eA k.entry.length v.ec, .slice v.iA k.ins.length v.ic,.slice (some ⟨gm,0,none⟩) k.ins.length k.ins.length,.slice (some ⟨gx,0,none⟩) k.ins.length k.ins.length,.bool true] 100);have b3:=below_alloc0 W2 (.cells #[.slice v.gA k.globals.length v.gc, .slice v.lA k.locks.length v.lc, .slice v.pA k.procs.length v.pc, .slice v.eA k.entry.length v.ec, .slice v.iA k.ins.length v.ic,.slice (some ⟨gm,0,none⟩) k.ins.length k.ins.length,.slice (some ⟨gx,0,none⟩) k.ins.length k.ins.length,.bool true] 100);generalize W2.alloc (.cells #[.slice v.gA k.globals.length v.gc, .slice v.lA k.locks.length v.lc, .slice v.pA k.procs.length v.pc, .slice v.eA k.entry.length v.ec, .slice v.iA k.ins.length v.ic,.slice (some ⟨gm,0,none⟩) k.ins.length k.ins.length,.slice (some ⟨gx,0,none⟩) k.ins.length k.ins.length,.bool true] 100) = W3 at *;rw [s1] at n2;rw [s2] at n3;have m1 : W3.heap[W.heap.size]? = some M1:=(b3.block _ (by omega)).trans ((b2.block _ (by omega)).trans n1);have m2 : W3.heap[W.heap.size + 1]? = some M2:=(b3.block _ (by omega)).trans n2;have hb : Below W.heap.size W W3:=below_trans' (below_trans' b1 b2) b3;have key : LK W3 W.heap.size (W.heap.size + 1 + 1) gm gx v k (List.replicate k.ins.length false) (List.replicate k.ins.length 0) true:=by
  rcases hs with ⟨rfl,rfl,rfl,rfl⟩ | ⟨rfl,rfl,rfl,rfl⟩
  · exact ⟨n3,own_bools m1 (Nat.le_refl _) (by omega),own_mono (zeros_of m2 (Nat.le_succ _) (by omega)) (Nat.le_refl _),by omega,by omega⟩
  · exact ⟨n3,own_bools m2 (by omega) (by omega),own_mono (zeros_of m1 (Nat.le_refl _) (by omega)) (Nat.le_refl _),by omega,by omega⟩
 exact ⟨_,gm,gx,rfl,key.below (Below.refl _ _).drew,hb.drew⟩
def room (k : Cd) (s : List Bool × List Nat) : Nat:=unm s.1 + (63 * k.ins.length - s.2.sum)
structure PutR (k : Cd) (s0 : List Bool × List Nat) (new : Bool) (s : List Bool × List Nat) : Prop where
 no : new = false → s = s0
 yes : new = true → room k s < room k s0
theorem PutR.refl (k : Cd) (s : List Bool × List Nat) : PutR k s false s:=⟨fun _=>rfl,fun h=>by simp at h⟩
theorem chg_no {h x : Nat} {s : List Bool × List Nat} (hc : chg h s.1 s.2 x = false) (hx : x < s.1.length) (hx2 : x < s.2.length) : lput h s x = s:=by
 unfold chg at hc;simp only [Bool.or_eq_false_iff,Bool.not_eq_false',bne_eq_false_iff_eq] at hc;unfold lput;rw [hc.2,set_same hx2];refine Prod.ext (mks_antisymm (mks_set _ x) ⟨by simp,fun b hb=>?_⟩) rfl;rw [mkd_set hx] at hb;split at hb
 · rename_i e;subst e;exact hc.1
 · exact hb
theorem unm_set_le {ms : List Bool} {x : Nat} (hx : x < ms.length) : unm (ms.set x true) ≤ unm ms:=by
 cases h : mkd ms x
 · have:=unm_set hx h;omega
 ·
  have e : ms.set x true = ms:=mks_antisymm (mks_set ms x) ⟨by simp,fun b hb=>by
   rw [mkd_set hx] at hb;split at hb
   · rename_i e;subst e;exact h
   · exact hb⟩
  rw [e];exact Nat.le_refl _
theorem chg_yes {k : Cd} {h x : Nat} {s : List Bool × List Nat} (hc : chg h s.1 s.2 x = true) (hx : x < s.1.length) (hx2 : x < s.2.length) (hl : s.2.length = k.ins.length) (hxs : ∀ i,gt (lput h s x).2 i < 64) : room k (lput h s x) < room k s:=by
 have hle : (lput h s x).2.sum ≤ 63 * k.ins.length:=by
  have:=sum_le (xs:=(lput h s x).2) (m:=63) fun i _=>by have:=hxs i;omega
  rw [show (lput h s x).2.length = k.ins.length from by simp [lput,hl]] at this;exact this
 have hs:=sum_set (y:=gt s.2 x ||| h) hx2;have hor : gt s.2 x ≤ gt s.2 x ||| h:=Nat.left_le_or
 have hu:=unm_set_le hx;unfold room;have e1 : (lput h s x).1 = s.1.set x true:=rfl;have e2 : (lput h s x).2 = s.2.set x (gt s.2 x ||| h):=rfl;rw [e2] at hle;rw [e1,e2];unfold chg at hc;rw [Bool.or_eq_true] at hc;rcases hc with hc | hc
 · have:=unm_set hx (by simpa using hc);omega
 ·
  have hne : gt s.2 x ||| h ≠ gt s.2 x:=by simpa using hc
  omega
theorem PutR.put {k : Cd} {s0 s : List Bool × List Nat} {new : Bool} (h : PutR k s0 new s) {g x : Nat} (hx : x < s.1.length) (hx2 : x < s.2.length) (hl : s.2.length = k.ins.length) (hxs : ∀ i,gt (lput g s x).2 i < 64) : PutR k s0 (new || chg g s.1 s.2 x) (lput g s x):=by
 cases hc : chg g s.1 s.2 x
 · rw [chg_no hc hx hx2,Bool.or_false];exact h
 ·
  rw [Bool.or_true];refine ⟨fun h=>by simp at h,fun _=>?_⟩;have h1:=chg_yes (k:=k) hc hx hx2 hl hxs;cases new
  · rw [← h.no rfl];exact h1
  · exact Nat.lt_trans h1 (h.yes rfl)
structure LookR (k : Cd) (rs : List Nat) (s : List Bool × List Nat) : Prop where
 len : s.1.length = k.ins.length
 snd : ∀ a,mkd s.1 a = true → MetP k a
 root : ∀ r ∈ rs,mkd s.1 (ent k r) = true
 may : MayS k s.2
theorem lookR0 (k : Cd) : LookR k [] (List.replicate k.ins.length false,List.replicate k.ins.length 0) :=
 ⟨by simp,fun a h=>by rw [mkd_replicate] at h;simp at h,fun r h=>by simp at h,by simp,fun a b h=>by
  exfalso
  rcases Nat.lt_or_ge a k.ins.length with h1 | h1
  · rw [gt_replicate h1] at h;simp at h
  · rw [gt_none (by simpa using h1)] at h;simp at h⟩
theorem LookR.put {k : Cd} {rs : List Nat} {s : List Bool × List Nat} (h : LookR k rs s) (hr : Right k) {r : Nat} (hrt : RootP k r) : LookR k (rs ++ [r]) (lput 0 s (ent k r)):=by
 have hel:=ent_lt hr (root_lt hr hrt);refine ⟨by simp [lput,h.len],fun a ha=>?_,fun q hq=>?_,h.may.step (g:=0) fun b hb=>by simp at hb⟩
 ·
  have ha : mkd (s.1.set (ent k r) true) a = true:=ha;rw [mkd_set (by rw [h.len];exact hel)] at ha;split at ha
  · rename_i e;subst e;exact .root hrt
  · exact h.snd a ha
 ·
  show mkd (s.1.set (ent k r) true) (ent k q) = true
  rw [mkd_set (by rw [h.len];exact hel)];split
  · rfl
  ·
   rename_i e;rcases List.mem_append.1 hq with h1 | h1
   · exact h.root q h1
   · exact absurd (by rw [List.mem_singleton.1 h1]) e
theorem bhd_lt {k : Cd} (hr : Right k) {j h : Nat} (hj : j < k.ins.length) (hh : h < 64) : bhd (opN k j) (argN k j) h < 64:=by
 unfold bhd;split
 · rename_i h6;have h1:=argN_lt6 hr hj (.inl h6);have h2:=hr.locks;have h3 : 2 ^ argN k j < 2 ^ 6:=Nat.pow_lt_pow_right (by omega) (by omega);exact (Nat.or_lt_two_pow (n:=6) hh h3 : _ < 2 ^ 6)
 ·
  split
  · exact Nat.lt_of_le_of_lt (andNot_le _ _) hh
  · exact hh
theorem LookR.full {k : Cd} (hr : Right k) {s : List Bool × List Nat} (h : LookR k (listN k.procs.length (RootP k)) s) : LookS k s :=
 ⟨⟨h.len,h.snd,fun r hrt=>h.root r (mem_listN.2 ⟨root_lt hr hrt,hrt⟩)⟩,h.may⟩
def LookNew (w : World) (v : CV) (k : Cd) (e : Ending) (w' : World) : Prop :=
 ∃ g gm gx,e = .returned (.pointer (some ⟨g,0,none⟩)) ∧ LK w' w.heap.size g gm gx v k (markL k.ins.length (MetP k)) (mayN k) false ∧ Below w.heap.size w w'
theorem l16All_any {B L : Nat} (v : CV) (k : Cd) (w : World) (hr : Right k) (hk : CodeAt w B v k) (hcb : CdB L k) (hL : L ≤ 1048576) :
  Calls Tryz.prog 121 #[.agg #[.slice v.gA k.globals.length v.gc, .slice v.lA k.locks.length v.lc, .slice v.pA k.procs.length v.pc, .slice v.eA k.entry.length v.ec, .slice v.iA k.ins.length v.ic]] w (LookNew w v k):=by
 have hkf:=hk.full;have hbx:=codeBox w v k;have hpl:=hr.procs;have hins:=hr.ins;have hmkb:=run_make_row' (P:=Tryz.prog) 87 4 (.bool false) 1 Tryz.underlying87 info_bool rfl .i64 .i64 k.ins.length (by omega) (by omega);have hmki:=run_make_row' (P:=Tryz.prog) 25 3 (.int .i64 0) 8 Tryz.underlying25 info_int rfl .i64 .i64 k.ins.length (by omega) (by omega);have HRT:=Lib.hid (fun W (h : CodeAt W w.heap.size v k)=>l14Roots_any v k W hr h);have HMK:=Lib.hid (fun A c W B' (h : Rd W B' A ((markL k.procs.length (RootP k)).map bv))=>(show Calls Tryz.prog 109 #[.slice A (markL k.procs.length (RootP k)).length c] W (NewNats W (listN k.procs.length (RootP k))) from by
  have HD:=l09Marked_any A c (markL k.procs.length (RootP k)) W h (by rw [markL_len];omega);rw [listN_markL] at HD;exact HD))
 have HR:=Lib.hid hr;have HCB:=Lib.hid hcb;have HEL:=Lib.hid hr.entry;have HNXT:=Lib.hid (fun a (ha : a < k.ins.length) W (h : CodeAt W w.heap.size v k)=>l09Next_any v k a W hr h ha);have HEN:=Lib.hid (fun p (hp : p < k.procs.length) W (h : CodeAt W w.heap.size v k)=>l08End_right v k p W hr h hcb hL hp);clear hk hr hcb
 go_enter Tryz.func121, Tryz.ntmps121
 go_upto_region 1 with (fail)
 generalize w.alloc (.cells #[.slice v.gA k.globals.length v.gc, .slice v.lA k.locks.length v.lc, .slice v.pA k.procs.length v.pc, .slice v.eA k.entry.length v.ec, .slice v.iA k.ins.length v.ic] 28) = W at hbx ⊢;obtain ⟨q1,q2,c0,c1,c2,c3,c4⟩:=id hbx;go_cut [3] from 12 to 22 (fun p w'=>Made2 W v k p w')
 case first =>
  go_region
  all_goals go_wp2_with fail
  all_goals go_meet
  all_goals first
   | exact made2_of (by omega) rfl rfl (.inl ⟨rfl,rfl,rfl,rfl⟩) rfl
   | exact made2_of (by omega) rfl rfl (.inr ⟨rfl,rfl,rfl,rfl⟩) rfl
 case rest =>
  obtain ⟨g,gm,gx,rfl,hLK,hbc⟩:=hcut;have hbx1:=hbx.to hbc;have hWs:=hbx.2.1;have hW0:=hbx.1;clear hmkb hmki q1 q2 c0 c1 c2 c3 c4;obtain ⟨q1,q2,c0,c1,c2,c3,c4⟩:=id hbx1;go_wp2_with fail
  refine (HRT.out _ (hkf.below q1)).mono ?_;rintro e w2 ⟨Ar,cr,rfl,hor,hb2⟩;go_wp2_with fail
  refine (HMK.out Ar cr w2 _ (own_rd hor)).mono ?_;rintro e w3 ⟨As,cs,rfl,hos,hb3⟩;have hL2:=hLK.below hb2;have hgb : g < w2.heap.size ∧ gm < w2.heap.size ∧ gx < w2.heap.size:=⟨hL2.lt,(own_lt hL2.rm).2,(own_lt hL2.rx).2⟩
  have HGB:=Lib.hid hgb;have hgl : W.heap.size ≤ g ∧ W.heap.size ≤ gm ∧ W.heap.size ≤ gx:=⟨hLK.lo,(own_lt hLK.rm).1,(own_lt hLK.rx).1⟩
  have HGL:=Lib.hid hgl;have hL3:=hL2.below hb3;have hbx3:=(hbx1.to hb2).to hb3;have hs3 : W.heap.size ≤ w3.heap.size:=by
   have h1:=hbc.size;have h2:=hb2.size;have h3:=hb3.size;omega
  have HT3:=Lib.hid (fun wr (h : Tch g gm gx w3 wr)=>hbx3.at (h.below hs3 hgl.1 hgl.2.1 hgl.2.2) (by omega));have HRS:=Lib.hid (show ∀ r ∈ listN k.procs.length (RootP k),RootP k r from fun r hrr=>(mem_listN.1 hrr).2);have hrl:=listN_len k.procs.length (RootP k);have hb3W : Below W.heap.size W w3:=hbc.trans ((hb2.mono hbc.size).trans (hb3.mono (by have:=hbc.size;have:=hb2.size;omega)));have HB3:=Lib.hid hb3W;generalize hrs : listN k.procs.length (RootP k) = rs at *;have HRSE:=Lib.hid hrs;clear hrs q1 q2 c0 c1 c2 c3 c4 hbx1 hL2 hLK hb2 hb3 hor hgb hgl hbc hb3W;go_wp2_with fail
  go_loopg [5] rs.length (fun l i wr=>∃ (j : Nat) (s : List Bool × List Nat),j ≤ rs.length ∧ l = rs.length - j ∧ i = .int .i64 j ∧ LK wr W.heap.size g gm gx v k s.1 s.2 true ∧ LookR k (rs.take j) s ∧ Tch g gm gx w3 wr ∧ wr.ownsRow w2.heap.size 3 1 (.slice As rs.length cs) rs.length (nv rs))
  case atStart=>exact ⟨0,_,by omega,by omega,rfl,hL3,lookR0 k,Tch.refl _ _ _ _,hos⟩
  case round =>
   clear hL3 hos;obtain ⟨j,s,hj,rfl,rfl,hL,hLR,hT,hos⟩:=hrel;have hbxr:=HT3.out _ hT;obtain ⟨q1,q2,c0,c1,c2,c3,c4⟩:=id hbxr;by_cases hlt : j < rs.length
   ·
    obtain ⟨adr,rfl,_,hcr⟩:=(own_rd hos).nat hlt;have HRT1:=Lib.hid (HRS.out rs[j] (List.getElem_mem hlt));have hrp:=root_lt HR.out HRT1.out;have HTK:=Lib.hid (show rs.take (j + 1) = rs.take j ++ [rs[j]] from by rw [List.take_succ_eq_append_getElem hlt]);generalize rs[j] = r at *;have hpe : r < k.entry.length:=by have:=HEL.out;omega
    obtain ⟨ade,ee,hbe,hce⟩:=entry_cell HR.out (hkf.below q1).full hrp;rw [ee] at c3;clear ee;have z1 : (0 : Int) ≤ (j : Int):=by omega
    have z2 : (j : Int) < (rs.length : Int):=by omega
    have y1 : (0 : Int) ≤ (r : Int):=by omega
    have y2 : (r : Int) < (k.entry.length : Int):=by omega
    go_wp2_with fail
    go_still_tail 9,(by kernel_rfl)
    change wpList _ _ _ _ _ wr.drew
    have hLD:=hL.below (Below.refl wr.heap.size wr).drew;have hosD : wr.drew.ownsRow w2.heap.size 3 1 (.slice (some adr) rs.length cs) rs.length (nv rs):=hos;have hTD : Tch g gm gx w3 wr.drew:=hT.drew;have HRN:=Lib.hid (hLR.put HR.out HRT1.out);have hel:=ent_lt HR.out hrp;have hgt:=hLR.may.lt HR.out (ent k r);have HPT:=Lib.hid (show Calls Tryz.prog 177 #[.pointer (some ⟨g,0,none⟩),.int .i64 (ent k r),.int .i64 0] wr.drew fun e w'=>e = .returned (.tuple #[]) ∧ LK w' W.heap.size g gm gx v k (lput 0 s (ent k r)).1 (lput 0 s (ent k r)).2 true ∧ Tch g gm gx wr.drew w' from l16Put_any g gm gx v k (ent k r) 0 s.1 s.2 true wr.drew hLD hel hins (by omega) hgt);clear hLD hL hLR hos hT c0 c1 c2 c3 c4 q1 q2 hce hcr hbxr;generalize wr.drew = wd at *;go_wp2_with fail
    refine HPT.out.mono ?_;rintro e w5 ⟨rfl,hL5,hT5⟩;go_wp2_with fail
    go_roundg (rs.length - (j + 1))
    case measure=>omega
    case rel=>exact ⟨j + 1,_,by omega,rfl,by go_num,hL5,by rw [HTK.out];exact HRN.out,hTD.trans hT5,hT5.own hosD HGB.out.1 HGB.out.2.1 HGB.out.2.2⟩
   ·
    obtain rfl : j = rs.length:=by omega
    rw [List.take_length,← HRSE.out] at hLR;have hS0:=hLR.full HR.out;clear c0 c1 c2 c3 c4 q1 q2 hbxr hos hLR;go_wp2_with fail
    obtain ⟨wo,rfl⟩ : ∃ wo : World,wo = wr:=⟨_,rfl⟩
    go_loopg [6] (2 * room k s + 1) (fun l i wr=>∃ (s : List Bool × List Nat) (new : Bool),LK wr W.heap.size g gm gx v k s.1 s.2 new ∧ LookS k s ∧ (new = false → (List.range k.ins.length).foldl (lplace k) s = s) ∧ l = 2 * room k s + (if new then 1 else 0) ∧ Tch g gm gx w3 wr)
    case atStart=>exact ⟨s,true,hL,hS0,by simp,rfl,hT⟩
    case round =>
     clear hL hS0 hT;obtain ⟨s0,new,hL,hS,hfx,rfl,hT⟩:=hrel;have HFX:=Lib.hid hfx;clear hfx;have c7:=hL.cell 7 rfl;have f7:=hL.free 7;cases new
     ·
      have hfin:=hS.stop HR.out (HFX.out rfl);subst hfin;go_wp2_with fail
      go_ret
      have hb4:=hT.below hs3 HGL.out.1 HGL.out.2.1 HGL.out.2.2;exact ⟨g,gm,gx,rfl,⟨hL.blk,own_mono hL.rm (by omega),own_mono hL.rx (by omega),hL.ne,Nat.le_trans (by omega) HGL.out.1⟩,hW0.trans ((HB3.out.trans hb4).mono (by omega))⟩
     ·
      have hLs:=hL.say false;have hTs:=hT.set (a:=⟨g,7,none⟩) (.inl rfl) (.bool false);go_wp2_with fail
      clear c7 f7 hL hT HFX;generalize wr.setCell ⟨g,7,none⟩ (.bool false) = wj at *;obtain ⟨wo,rfl⟩ : ∃ wo : World,wo = wr:=⟨_,rfl⟩
      go_loopg [6] k.ins.length (fun l i wr=>∃ (j : Nat) (t : List Bool × List Nat) (nw : Bool),j ≤ k.ins.length ∧ l = k.ins.length - j ∧ i = .int .i64 j ∧ LK wr W.heap.size g gm gx v k t.1 t.2 nw ∧ LookS k t ∧ PutR k s0 nw t ∧ t = (List.range j).foldl (lplace k) s0 ∧ Tch g gm gx w3 wr)
      case atStart=>exact ⟨0,s0,false,by omega,by omega,rfl,hLs,hS,PutR.refl _ _,rfl,hTs⟩
      case round =>
       clear hLs hS hTs;obtain ⟨j,s,nw0,hj,rfl,rfl,hL,hS,hP,hfo,hT⟩:=hrel;have HFO:=Lib.hid hfo;clear hfo;have hbxr:=HT3.out _ hT;obtain ⟨q1,q2,c0,c1,c2,c3,c4⟩:=id hbxr;by_cases hlt : j < k.ins.length
       ·
        have hml:=hL.mlen;have hxlen:=hL.xlen;have cm:=own_at hL.rm (j:=j) hlt (u:=.bool (mkd s.1 j)) (by rw [List.getElem?_map,List.getElem?_eq_getElem (by omega),mkd_get (by omega)];rfl);have cx:=own_at hL.rx (j:=j) hlt (nv_get (gt_some (xs:=s.2) (by omega)));have HML:=Lib.hid hml;have HXL:=Lib.hid hxlen;clear hml hxlen;have c5:=hL.cell 5 rfl;have c6:=hL.cell 6 rfl;have z1 : (0 : Int) ≤ (j : Int):=by omega
        have z2 : (j : Int) < (k.ins.length : Int):=by omega
        cases hmk : mkd s.1 j
        ·
         rw [hmk] at cm;have HEQ:=Lib.hid (show lplace k s j = s from by unfold lplace;rw [if_neg (by rw [hmk];simp)]);clear hmk;go_wp2_with fail
         go_roundg (k.ins.length - (j + 1))
         case measure=>omega
         case rel=>exact ⟨j + 1,s,nw0,by omega,rfl,by go_num,hL,hS,hP,by rw [List.range_succ,List.foldl_append,← HFO.out];exact HEQ.out.symm,hT⟩
        ·
         rw [hmk] at cm;have hmet:=hS.met.snd j hmk;obtain ⟨ai,A',c',eA,hbi,k0,k1,k2,k3,k4,k5,k6,_⟩:=(hkf.below q1).full.i.get hlt;have HEA:=Lib.hid eA;rw [eA] at c4;clear eA;rw [opN_eq hlt] at k0;rw [argN_eq HR.out hlt] at k1;have hhl:=hS.may.lt HR.out j;by_cases h4 : opN k j = 4
         ·
          have hpp:=argN_lt HR.out hlt (.inl h4);have hel:=ent_lt HR.out hpp;have hfl:=HR.out.lt _ hpp;have hgl:=hL.lt;have hgml:=(own_lt hL.rm).2;have hgxl:=(own_lt hL.rx).2;obtain ⟨ade,ee,hbe,hce⟩:=entry_cell HR.out (hkf.below q1).full hpp;rw [ee] at c3;clear ee;have hpe : argN k j < k.entry.length:=by have:=HEL.out;omega
          have y1 : (0 : Int) ≤ (argN k j : Int):=by omega
          have y2 : (argN k j : Int) < (k.entry.length : Int):=by omega
          have hS1:=hS.put (n:=ent k (argN k j)) (g:=gt s.2 j) (.call hmet h4) fun b hb=>.call (hS.may.snd j b hb) h4;have hP1:=hP.put (g:=gt s.2 j) (x:=ent k (argN k j)) (by rw [HML.out];exact hel) (by rw [HXL.out];exact hel) HXL.out (fun i=>hS1.may.lt HR.out i);have HEQ0:=Lib.hid (show mkd (lput (gt s.2 j) s (ent k (argN k j))).1 (fin k (argN k j) - 1) = false → lplace k s j = lput (gt s.2 j) s (ent k (argN k j)) from fun h=>by unfold lplace;rw [if_pos hmk,if_pos h4,if_neg (by rw [h];simp)]);have HEQ1:=Lib.hid (show mkd (lput (gt s.2 j) s (ent k (argN k j))).1 (fin k (argN k j) - 1) = true → (nextL k j).foldl (lput (gt (lput (gt s.2 j) s (ent k (argN k j))).2 (fin k (argN k j) - 1))) (lput (gt s.2 j) s (ent k (argN k j))) = lplace k s j from fun h=>by unfold lplace;rw [if_pos hmk,if_pos h4,if_pos h]);have HNX1:=Lib.hid (show mkd (lput (gt s.2 j) s (ent k (argN k j))).1 (fin k (argN k j) - 1) = true → ∀ y ∈ nextL k j,y < k.ins.length ∧ MetP k y ∧ ∀ b,(gt (lput (gt s.2 j) s (ent k (argN k j))).2 (fin k (argN k j) - 1)).testBit b = true → MayP k b y from fun h y hy=>⟨(nextL_in HR.out hlt hy).1,.back hmet h4 (hS1.met.snd _ h) hy,fun b hb=>.back hmet h4 (hS1.may.snd _ b hb) hy⟩);have hgte:=hS.may.lt HR.out (ent k (argN k j));rw [h4] at k0;have e6 : ((4 : Int) == 6) = false:=by decide
          have e7 : ((4 : Int) == 7) = false:=by decide
          clear hmk hmet h4;have a6:=cell_below (below_alloc0 wr (.cells #[.int .i64 4,.int .i64 (argN k j),.int .i64 k.ins[j].term.kind,.int .i64 k.ins[j].term.num,.string k.ins[j].term.name,.slice A' k.ins[j].term.kids.length c',.int .i64 k.ins[j].to] 52)) c6;have ax:=cell_below (below_alloc0 wr (.cells #[.int .i64 4,.int .i64 (argN k j),.int .i64 k.ins[j].term.kind,.int .i64 k.ins[j].term.num,.string k.ins[j].term.name,.slice A' k.ins[j].term.kids.length c',.int .i64 k.ins[j].to] 52)) cx;have a0:=cell_below (below_alloc0 wr (.cells #[.int .i64 4,.int .i64 (argN k j),.int .i64 k.ins[j].term.kind,.int .i64 k.ins[j].term.num,.string k.ins[j].term.name,.slice A' k.ins[j].term.kids.length c',.int .i64 k.ins[j].to] 52)) c0;have a1:=cell_below (below_alloc0 wr (.cells #[.int .i64 4,.int .i64 (argN k j),.int .i64 k.ins[j].term.kind,.int .i64 k.ins[j].term.num,.string k.ins[j].term.name,.slice A' k.ins[j].term.kids.length c',.int .i64 k.ins[j].to] 52)) c1;have a2:=cell_below (below_alloc0 wr (.cells #[.int .i64 4,.int .i64 (argN k j),.int .i64 k.ins[j].term.kind,.int .i64 k.ins[j].term.num,.string k.ins[j].term.name,.slice A' k.ins[j].term.kids.length c',.int .i64 k.ins[j].to] 52)) c2;have a3:=cell_below (below_alloc0 wr (.cells #[.int .i64 4,.int .i64 (argN k j),.int .i64 k.ins[j].term.kind,.int .i64 k.ins[j].term.num,.string k.ins[j].term.name,.slice A' k.ins[j].term.kids.length c',.int .i64 k.ins[j].to] 52)) c3;have a4:=cell_below (below_alloc0 wr (.cells #[.int .i64 4,.int .i64 (argN k j),.int .i64 k.ins[j].term.kind,.int .i64 k.ins[j].term.num,.string k.ins[j].term.name,.slice A' k.ins[j].term.kids.length c',.int .i64 k.ins[j].to] 52)) c4;have ae:=cell_below (below_alloc0 wr (.cells #[.int .i64 4,.int .i64 (argN k j),.int .i64 k.ins[j].term.kind,.int .i64 k.ins[j].term.num,.string k.ins[j].term.name,.slice A' k.ins[j].term.kids.length c',.int .i64 k.ins[j].to] 52)) hce;have ca1:=box_cell wr #[.int .i64 4,.int .i64 (argN k j),.int .i64 k.ins[j].term.kind,.int .i64 k.ins[j].term.num,.string k.ins[j].term.name,.slice A' k.ins[j].term.kids.length c',.int .i64 k.ins[j].to] 52 1 rfl;go_wp2_with fail
          have hba:=below_alloc0 wr (.cells #[.int .i64 4,.int .i64 (argN k j),.int .i64 k.ins[j].term.kind,.int .i64 k.ins[j].term.num,.string k.ins[j].term.name,.slice A' k.ins[j].term.kids.length c',.int .i64 k.ins[j].to] 52);generalize wr.alloc (.cells #[.int .i64 4,.int .i64 (argN k j),.int .i64 k.ins[j].term.kind,.int .i64 k.ins[j].term.num,.string k.ins[j].term.name,.slice A' k.ins[j].term.kids.length c',.int .i64 k.ins[j].to] 52) = wa at hba ca1 ⊢;have hLa:=hL.below hba;have hTa:=hT.trans (Tch.of_below hba);clear ae hce a6 ax a0 a1 a2 a3 a4 c0 c1 c2 c3 c4 c5 c6 cm cx k0 k1 k2 k3 k4 k5 k6 q1 q2 hbxr hL hT hba;have hr1 : wr.heap.size ≠ g ∧ wr.heap.size ≠ gm ∧ wr.heap.size ≠ gx:=by omega
          have HPT:=Lib.hid (l16Put_any g gm gx v k (ent k (argN k j)) (gt s.2 j) s.1 s.2 nw0 wa hLa hel hins hhl hgte);refine HPT.out.mono ?_;rintro e w5 ⟨rfl,hL5,hT5⟩;have ca5 : w5.cell? ⟨wr.heap.size,1,none⟩ = some (.int .i64 (argN k j)):=(World.cell?_of_block (hT5.block _ (World.block_lt_of_cell? wa _ ca1) hr1.1 hr1.2.1 hr1.2.2)).trans ca1;have hL5 : LK w5 W.heap.size g gm gx v k (lput (gt s.2 j) s (ent k (argN k j))).1 (lput (gt s.2 j) s (ent k (argN k j))).2 (nw0 || chg (gt s.2 j) s.1 s.2 (ent k (argN k j))):=hL5;have hTa5:=hTa.trans hT5;clear hLa hTa hT5 ca1 HPT hr1;generalize lput (gt s.2 j) s (ent k (argN k j)) = s1 at *;generalize (nw0 || chg (gt s.2 j) s.1 s.2 (ent k (argN k j))) = nw1 at *;have hbx5:=HT3.out _ hTa5;obtain ⟨q1,q2,c0,c1,c2,c3,c4⟩:=id hbx5;go_wp2_with fail
          refine (HEN.out _ hpp _ (hkf.below q1)).mono ?_;rintro e w6 ⟨rfl,hb6⟩;have hLa:=hL5.below hb6;have hTa:=hTa5.trans (Tch.of_below hb6);clear c0 c1 c2 c3 c4 q1 q2 hbx5 hL5 hTa5 hb6 ca5;have hfe : fin k (argN k j) - 1 < k.ins.length:=by omega
          generalize fin k (argN k j) - 1 = fe at *;have hhf:=hS1.may.lt HR.out fe;have cm6:=own_at hLa.rm (j:=fe) hfe (u:=.bool (mkd s1.1 fe)) (by rw [List.getElem?_map,List.getElem?_eq_getElem (by rw [hLa.mlen];exact hfe),mkd_get (by rw [hLa.mlen];exact hfe)];rfl);have cx6:=own_at hLa.rx (j:=fe) hfe (nv_get (gt_some (xs:=s1.2) (by rw [hLa.xlen];exact hfe)));have c5:=hLa.cell 5 rfl;have c6:=hLa.cell 6 rfl;have y3 : (0 : Int) ≤ (fe : Int):=by omega
          have y4 : (fe : Int) < (k.ins.length : Int):=by omega
          cases hme : mkd s1.1 fe
          ·
           rw [hme] at cm6;have HEQ:=Lib.hid (HEQ0.out hme);clear hme;go_wp2_with fail
           go_roundg (k.ins.length - (j + 1))
           case measure=>omega
           case rel=>exact ⟨j + 1,s1,nw1,by omega,rfl,by go_num,hLa,hS1,hP1,by rw [List.range_succ,List.foldl_append,← HFO.out];exact HEQ.out.symm,hTa⟩
          ·
           rw [hme] at cm6;have HEQ:=Lib.hid (HEQ1.out hme);have HNX:=Lib.hid (HNX1.out hme);have hh:=hhf;clear hme HEQ0 HEQ1 HNX1;generalize gt s1.2 fe = h at *;have hSa:=hS1;have hPa:=hP1;clear hS1 hP1 hS hP;have hbxa:=HT3.out _ hTa;obtain ⟨q1,q2,c0,c1,c2,c3,c4⟩:=id hbxa;go_wp2_with fail
           refine (HNXT.out j hlt _ (hkf.below q1)).mono ?_;rintro e w9 ⟨An,cn,rfl,hon,hb9⟩;obtain ⟨l9,h9,hon⟩ : ∃ l9,(g < l9 ∧ gm < l9 ∧ gx < l9) ∧ w9.ownsRow l9 3 1 (.slice An (nextL k j).length cn) (nextL k j).length (nv (nextL k j)):=⟨_,⟨hLa.lt,(own_lt hLa.rm).2,(own_lt hLa.rx).2⟩,hon⟩
           have HG9:=Lib.hid h9;have hL1:=hLa.below hb9;have hT1:=hTa.trans (Tch.of_below hb9);have hnl:=nextL_len k j;generalize nextL k j = ns at hon HEQ HNX hnl ⊢;clear q1 q2 c0 c1 c2 c3 c4 hb9 hLa hTa h9 hbxa;go_wp2_with fail
           obtain ⟨wo,rfl⟩ : ∃ wo : World,wo = wr:=⟨_,rfl⟩
           go_loopg [11] ns.length (fun l i wr=>∃ (m : Nat) (t : List Bool × List Nat) (nw : Bool),m ≤ ns.length ∧ l = ns.length - m ∧ i = .int .i64 m ∧ LK wr W.heap.size g gm gx v k t.1 t.2 nw ∧ LookS k t ∧ PutR k s0 nw t ∧ t = (ns.take m).foldl (lput h) s1 ∧ Tch g gm gx w3 wr ∧ wr.ownsRow l9 3 1 (.slice An ns.length cn) ns.length (nv ns))
           case atStart=>exact ⟨0,s1,nw1,by omega,by omega,rfl,hL1,hSa,hPa,rfl,hT1,hon⟩
           case round =>
            clear hL1 hSa hPa hT1 hon;obtain ⟨m,t,nw,hm,rfl,rfl,hL2,hS2,hP2,ht,hT2,hon⟩:=hrel;have HTT:=Lib.hid ht;clear ht;by_cases hltm : m < ns.length
            ·
             obtain ⟨adn,rfl,hbn,hcn⟩:=(own_rd hon).nat hltm;obtain ⟨hxl,hmet,hmay⟩:=HNX.out ns[m] (List.getElem_mem hltm);have HMY:=Lib.hid hmay;have HMT:=Lib.hid hmet;clear hmay hmet;have HST:=Lib.hid (fold_take (lput h) ns s1 hltm);generalize ns[m] = y at *;have hgt:=hS2.may.lt HR.out y;have HPT:=Lib.hid (l16Put_any g gm gx v k y h t.1 t.2 nw wr hL2 hxl hins hh hgt);have hSn:=hS2.put HMT.out (g:=h) HMY.out;have hPn:=hP2.put (g:=h) (x:=y) (by rw [hL2.mlen];exact hxl) (by rw [hL2.xlen];exact hxl) hL2.xlen (fun i=>hSn.may.lt HR.out i);have HS3:=Lib.hid hSn;have HP3:=Lib.hid hPn;have z1 : (0 : Int) ≤ (m : Int):=by omega
             have z2 : (m : Int) < (ns.length : Int):=by omega
             clear hSn hPn hL2 hS2 hP2;go_wp2_with fail
             refine HPT.out.mono ?_;rintro e w10 ⟨rfl,hL3,hT3⟩;go_wp2_with fail
             go_roundg (ns.length - (m + 1))
             case measure=>omega
             case rel=>exact ⟨m + 1,lput h t y,nw || chg h t.1 t.2 y,by omega,rfl,by go_num,hL3,HS3.out,HP3.out,by rw [HST.out,← HTT.out],hT2.trans hT3,hT3.own hon HG9.out.1 HG9.out.2.1 HG9.out.2.2⟩
            ·
             obtain rfl : m = ns.length:=by omega
             go_wp2_with fail
             go_roundg (k.ins.length - (j + 1))
             case measure=>omega
             case rel =>
              have e1 : t = lplace k s j:=by rw [HTT.out,List.take_length];exact HEQ.out
              have e2 : t = (List.range (j + 1)).foldl (lplace k) s0:=by rw [List.range_succ,List.foldl_append,← HFO.out];exact e1
              exact ⟨j + 1,t,nw,by omega,rfl,by go_num,hL2,hS2,hP2,e2,hT2⟩
         ·
          have HEQ:=Lib.hid (show (nextL k j).foldl (lput (bhd (opN k j) (argN k j) (gt s.2 j))) s = lplace k s j from by unfold lplace;rw [if_pos hmk,if_neg h4]);have HNX:=Lib.hid (show ∀ y ∈ nextL k j,y < k.ins.length ∧ MetP k y ∧ ∀ b,(bhd (opN k j) (argN k j) (gt s.2 j)).testBit b = true → MayP k b y from fun y hy=>⟨(nextL_in HR.out hlt hy).1,.next hmet h4 hy,fun b hb=>bhd_may hS.may HR.out hmet h4 hy hb⟩);have hh:=bhd_lt HR.out hlt hhl;have e4 : (opN k j == 4) = false:=by simpa using h4
          clear hmk hmet;by_cases h6 : opN k j = 6
          ·
           have hal:=argN_lt6 HR.out hlt (.inl h6);have hlk:=HR.out.locks;have HSV:=Lib.hid (show bits .or .i64 (gt s.2 j : Int) ((2 : Int) ^ argN k j) = ((bhd (opN k j) (argN k j) (gt s.2 j) : Nat) : Int) from by rw [bhd,if_pos h6];exact or_bit64 _ _ (by omega) (by omega));rw [h6] at k0;have HB:=Lib.hid (fun W=>l12Bit_any (argN k j) W (by omega));clear h6 h4 e4;generalize bhd (opN k j) (argN k j) (gt s.2 j) = h at *;have a6:=cell_below (below_alloc0 wr (.cells #[.int .i64 6,.int .i64 (argN k j),.int .i64 k.ins[j].term.kind,.int .i64 k.ins[j].term.num,.string k.ins[j].term.name,.slice A' k.ins[j].term.kids.length c',.int .i64 k.ins[j].to] 52)) c6;have ax:=cell_below (below_alloc0 wr (.cells #[.int .i64 6,.int .i64 (argN k j),.int .i64 k.ins[j].term.kind,.int .i64 k.ins[j].term.num,.string k.ins[j].term.name,.slice A' k.ins[j].term.kids.length c',.int .i64 k.ins[j].to] 52)) cx;have a0:=cell_below (below_alloc0 wr (.cells #[.int .i64 6,.int .i64 (argN k j),.int .i64 k.ins[j].term.kind,.int .i64 k.ins[j].term.num,.string k.ins[j].term.name,.slice A' k.ins[j].term.kids.length c',.int .i64 k.ins[j].to] 52)) c0;have a1:=cell_below (below_alloc0 wr (.cells #[.int .i64 6,.int .i64 (argN k j),.int .i64 k.ins[j].term.kind,.int .i64 k.ins[j].term.num,.string k.ins[j].term.name,.slice A' k.ins[j].term.kids.length c',.int .i64 k.ins[j].to] 52)) c1;have a2:=cell_below (below_alloc0 wr (.cells #[.int .i64 6,.int .i64 (argN k j),.int .i64 k.ins[j].term.kind,.int .i64 k.ins[j].term.num,.string k.ins[j].term.name,.slice A' k.ins[j].term.kids.length c',.int .i64 k.ins[j].to] 52)) c2;have a3:=cell_below (below_alloc0 wr (.cells #[.int .i64 6,.int .i64 (argN k j),.int .i64 k.ins[j].term.kind,.int .i64 k.ins[j].term.num,.string k.ins[j].term.name,.slice A' k.ins[j].term.kids.length c',.int .i64 k.ins[j].to] 52)) c3;have a4:=cell_below (below_alloc0 wr (.cells #[.int .i64 6,.int .i64 (argN k j),.int .i64 k.ins[j].term.kind,.int .i64 k.ins[j].term.num,.string k.ins[j].term.name,.slice A' k.ins[j].term.kids.length c',.int .i64 k.ins[j].to] 52)) c4;go_wp2_with fail
           have hba:=below_alloc0 wr (.cells #[.int .i64 6,.int .i64 (argN k j),.int .i64 k.ins[j].term.kind,.int .i64 k.ins[j].term.num,.string k.ins[j].term.name,.slice A' k.ins[j].term.kids.length c',.int .i64 k.ins[j].to] 52);generalize wr.alloc (.cells #[.int .i64 6,.int .i64 (argN k j),.int .i64 k.ins[j].term.kind,.int .i64 k.ins[j].term.num,.string k.ins[j].term.name,.slice A' k.ins[j].term.kids.length c',.int .i64 k.ins[j].to] 52) = wa at hba ⊢;have hLa:=hL.below hba;have hTa:=hT.trans (Tch.of_below hba);clear a6 ax a0 a1 a2 a3 a4 c0 c1 c2 c3 c4 c5 c6 cm cx k0 k1 k2 k3 k4 k5 k6 q1 q2 hbxr hL hT hba;refine (HB.out _).mono ?_;rintro e w5 ⟨rfl,rfl⟩;have hbxa:=HT3.out _ hTa;obtain ⟨q1,q2,c0,c1,c2,c3,c4⟩:=id hbxa;go_wp2_with fail
           rw [HSV.out];refine (HNXT.out j hlt _ (hkf.below q1)).mono ?_;rintro e w9 ⟨An,cn,rfl,hon,hb9⟩;obtain ⟨l9,h9,hon⟩ : ∃ l9,(g < l9 ∧ gm < l9 ∧ gx < l9) ∧ w9.ownsRow l9 3 1 (.slice An (nextL k j).length cn) (nextL k j).length (nv (nextL k j)):=⟨_,⟨hLa.lt,(own_lt hLa.rm).2,(own_lt hLa.rx).2⟩,hon⟩
           have HG9:=Lib.hid h9;have hL1:=hLa.below hb9;have hT1:=hTa.trans (Tch.of_below hb9);have hnl:=nextL_len k j;generalize nextL k j = ns at hon HEQ HNX hnl ⊢;clear q1 q2 c0 c1 c2 c3 c4 hb9 hLa hTa h9 hbxa;go_wp2_with fail
           obtain ⟨wo,rfl⟩ : ∃ wo : World,wo = wr:=⟨_,rfl⟩
           go_loopg [11] ns.length (fun l i wr=>∃ (m : Nat) (t : List Bool × List Nat) (nw : Bool),m ≤ ns.length ∧ l = ns.length - m ∧ i = .int .i64 m ∧ LK wr W.heap.size g gm gx v k t.1 t.2 nw ∧ LookS k t ∧ PutR k s0 nw t ∧ t = (ns.take m).foldl (lput h) s ∧ Tch g gm gx w3 wr ∧ wr.ownsRow l9 3 1 (.slice An ns.length cn) ns.length (nv ns))
           case atStart=>exact ⟨0,s,nw0,by omega,by omega,rfl,hL1,hS,hP,rfl,hT1,hon⟩
           case round =>
            clear hL1 hS hP hT1 hon;obtain ⟨m,t,nw,hm,rfl,rfl,hL2,hS2,hP2,ht,hT2,hon⟩:=hrel;have HTT:=Lib.hid ht;clear ht;by_cases hltm : m < ns.length
            ·
             obtain ⟨adn,rfl,hbn,hcn⟩:=(own_rd hon).nat hltm;obtain ⟨hxl,hmet,hmay⟩:=HNX.out ns[m] (List.getElem_mem hltm);have HMY:=Lib.hid hmay;have HMT:=Lib.hid hmet;clear hmay hmet;have HST:=Lib.hid (fold_take (lput h) ns s hltm);generalize ns[m] = y at *;have hgt:=hS2.may.lt HR.out y;have HPT:=Lib.hid (l16Put_any g gm gx v k y h t.1 t.2 nw wr hL2 hxl hins hh hgt);have hSn:=hS2.put HMT.out (g:=h) HMY.out;have hPn:=hP2.put (g:=h) (x:=y) (by rw [hL2.mlen];exact hxl) (by rw [hL2.xlen];exact hxl) hL2.xlen (fun i=>hSn.may.lt HR.out i);have HS3:=Lib.hid hSn;have HP3:=Lib.hid hPn;have z1 : (0 : Int) ≤ (m : Int):=by omega
             have z2 : (m : Int) < (ns.length : Int):=by omega
             clear hSn hPn hL2 hS2 hP2;go_wp2_with fail
             refine HPT.out.mono ?_;rintro e w10 ⟨rfl,hL3,hT3⟩;go_wp2_with fail
             go_roundg (ns.length - (m + 1))
             case measure=>omega
             case rel=>exact ⟨m + 1,lput h t y,nw || chg h t.1 t.2 y,by omega,rfl,by go_num,hL3,HS3.out,HP3.out,by rw [HST.out,← HTT.out],hT2.trans hT3,hT3.own hon HG9.out.1 HG9.out.2.1 HG9.out.2.2⟩
            ·
             obtain rfl : m = ns.length:=by omega
             go_wp2_with fail
             go_roundg (k.ins.length - (j + 1))
             case measure=>omega
             case rel =>
              have e1 : t = lplace k s j:=by rw [HTT.out,List.take_length];exact HEQ.out
              have e2 : t = (List.range (j + 1)).foldl (lplace k) s0:=by rw [List.range_succ,List.foldl_append,← HFO.out];exact e1
              exact ⟨j + 1,t,nw,by omega,rfl,by go_num,hL2,hS2,hP2,e2,hT2⟩
          ·
           by_cases h7 : opN k j = 7
           ·
            have hal:=argN_lt6 HR.out hlt (.inr h7);have hlk:=HR.out.locks;have HSV:=Lib.hid (show withoutV (gt s.2 j : Int) ((2 : Int) ^ argN k j) = ((bhd (opN k j) (argN k j) (gt s.2 j) : Nat) : Int) from by rw [bhd,if_neg h6,if_pos h7,two_pow_cast,without_nat (by omega) (by omega)]);rw [h7] at k0;have HB:=Lib.hid (fun W=>l12Bit_any (argN k j) W (by omega));clear h6 h7 h4 e4;generalize bhd (opN k j) (argN k j) (gt s.2 j) = h at *;have a6:=cell_below (below_alloc0 wr (.cells #[.int .i64 7,.int .i64 (argN k j),.int .i64 k.ins[j].term.kind,.int .i64 k.ins[j].term.num,.string k.ins[j].term.name,.slice A' k.ins[j].term.kids.length c',.int .i64 k.ins[j].to] 52)) c6;have ax:=cell_below (below_alloc0 wr (.cells #[.int .i64 7,.int .i64 (argN k j),.int .i64 k.ins[j].term.kind,.int .i64 k.ins[j].term.num,.string k.ins[j].term.name,.slice A' k.ins[j].term.kids.length c',.int .i64 k.ins[j].to] 52)) cx;have a0:=cell_below (below_alloc0 wr (.cells #[.int .i64 7,.int .i64 (argN k j),.int .i64 k.ins[j].term.kind,.int .i64 k.ins[j].term.num,.string k.ins[j].term.name,.slice A' k.ins[j].term.kids.length c',.int .i64 k.ins[j].to] 52)) c0;have a1:=cell_below (below_alloc0 wr (.cells #[.int .i64 7,.int .i64 (argN k j),.int .i64 k.ins[j].term.kind,.int .i64 k.ins[j].term.num,.string k.ins[j].term.name,.slice A' k.ins[j].term.kids.length c',.int .i64 k.ins[j].to] 52)) c1;have a2:=cell_below (below_alloc0 wr (.cells #[.int .i64 7,.int .i64 (argN k j),.int .i64 k.ins[j].term.kind,.int .i64 k.ins[j].term.num,.string k.ins[j].term.name,.slice A' k.ins[j].term.kids.length c',.int .i64 k.ins[j].to] 52)) c2;have a3:=cell_below (below_alloc0 wr (.cells #[.int .i64 7,.int .i64 (argN k j),.int .i64 k.ins[j].term.kind,.int .i64 k.ins[j].term.num,.string k.ins[j].term.name,.slice A' k.ins[j].term.kids.length c',.int .i64 k.ins[j].to] 52)) c3;have a4:=cell_below (below_alloc0 wr (.cells #[.int .i64 7,.int .i64 (argN k j),.int .i64 k.ins[j].term.kind,.int .i64 k.ins[j].term.num,.string k.ins[j].term.name,.slice A' k.ins[j].term.kids.length c',.int .i64 k.ins[j].to] 52)) c4;go_wp2_with fail
            have hba:=below_alloc0 wr (.cells #[.int .i64 7,.int .i64 (argN k j),.int .i64 k.ins[j].term.kind,.int .i64 k.ins[j].term.num,.string k.ins[j].term.name,.slice A' k.ins[j].term.kids.length c',.int .i64 k.ins[j].to] 52);generalize wr.alloc (.cells #[.int .i64 7,.int .i64 (argN k j),.int .i64 k.ins[j].term.kind,.int .i64 k.ins[j].term.num,.string k.ins[j].term.name,.slice A' k.ins[j].term.kids.length c',.int .i64 k.ins[j].to] 52) = wa at hba ⊢;have hLa:=hL.below hba;have hTa:=hT.trans (Tch.of_below hba);clear a6 ax a0 a1 a2 a3 a4 c0 c1 c2 c3 c4 c5 c6 cm cx k0 k1 k2 k3 k4 k5 k6 q1 q2 hbxr hL hT hba;refine (HB.out _).mono ?_;rintro e w5 ⟨rfl,rfl⟩;go_wp2_with fail
            refine (without_s _ _ _).mono ?_;rintro e w5 ⟨rfl,rfl⟩;have hbxa:=HT3.out _ hTa;obtain ⟨q1,q2,c0,c1,c2,c3,c4⟩:=id hbxa;go_wp2_with fail
            rw [HSV.out];refine (HNXT.out j hlt _ (hkf.below q1)).mono ?_;rintro e w9 ⟨An,cn,rfl,hon,hb9⟩;obtain ⟨l9,h9,hon⟩ : ∃ l9,(g < l9 ∧ gm < l9 ∧ gx < l9) ∧ w9.ownsRow l9 3 1 (.slice An (nextL k j).length cn) (nextL k j).length (nv (nextL k j)):=⟨_,⟨hLa.lt,(own_lt hLa.rm).2,(own_lt hLa.rx).2⟩,hon⟩
            have HG9:=Lib.hid h9;have hL1:=hLa.below hb9;have hT1:=hTa.trans (Tch.of_below hb9);have hnl:=nextL_len k j;generalize nextL k j = ns at hon HEQ HNX hnl ⊢;clear q1 q2 c0 c1 c2 c3 c4 hb9 hLa hTa h9 hbxa;go_wp2_with fail
            obtain ⟨wo,rfl⟩ : ∃ wo : World,wo = wr:=⟨_,rfl⟩
            go_loopg [11] ns.length (fun l i wr=>∃ (m : Nat) (t : List Bool × List Nat) (nw : Bool),m ≤ ns.length ∧ l = ns.length - m ∧ i = .int .i64 m ∧ LK wr W.heap.size g gm gx v k t.1 t.2 nw ∧ LookS k t ∧ PutR k s0 nw t ∧ t = (ns.take m).foldl (lput h) s ∧ Tch g gm gx w3 wr ∧ wr.ownsRow l9 3 1 (.slice An ns.length cn) ns.length (nv ns))
            case atStart=>exact ⟨0,s,nw0,by omega,by omega,rfl,hL1,hS,hP,rfl,hT1,hon⟩
            case round =>
             clear hL1 hS hP hT1 hon;obtain ⟨m,t,nw,hm,rfl,rfl,hL2,hS2,hP2,ht,hT2,hon⟩:=hrel;have HTT:=Lib.hid ht;clear ht;by_cases hltm : m < ns.length
             ·
              obtain ⟨adn,rfl,hbn,hcn⟩:=(own_rd hon).nat hltm;obtain ⟨hxl,hmet,hmay⟩:=HNX.out ns[m] (List.getElem_mem hltm);have HMY:=Lib.hid hmay;have HMT:=Lib.hid hmet;clear hmay hmet;have HST:=Lib.hid (fold_take (lput h) ns s hltm);generalize ns[m] = y at *;have hgt:=hS2.may.lt HR.out y;have HPT:=Lib.hid (l16Put_any g gm gx v k y h t.1 t.2 nw wr hL2 hxl hins hh hgt);have hSn:=hS2.put HMT.out (g:=h) HMY.out;have hPn:=hP2.put (g:=h) (x:=y) (by rw [hL2.mlen];exact hxl) (by rw [hL2.xlen];exact hxl) hL2.xlen (fun i=>hSn.may.lt HR.out i);have HS3:=Lib.hid hSn;have HP3:=Lib.hid hPn;have z1 : (0 : Int) ≤ (m : Int):=by omega
              have z2 : (m : Int) < (ns.length : Int):=by omega
              clear hSn hPn hL2 hS2 hP2;go_wp2_with fail
              refine HPT.out.mono ?_;rintro e w10 ⟨rfl,hL3,hT3⟩;go_wp2_with fail
              go_roundg (ns.length - (m + 1))
              case measure=>omega
              case rel=>exact ⟨m + 1,lput h t y,nw || chg h t.1 t.2 y,by omega,rfl,by go_num,hL3,HS3.out,HP3.out,by rw [HST.out,← HTT.out],hT2.trans hT3,hT3.own hon HG9.out.1 HG9.out.2.1 HG9.out.2.2⟩
             ·
              obtain rfl : m = ns.length:=by omega
              go_wp2_with fail
              go_roundg (k.ins.length - (j + 1))
              case measure=>omega
              case rel =>
               have e1 : t = lplace k s j:=by rw [HTT.out,List.take_length];exact HEQ.out
               have e2 : t = (List.range (j + 1)).foldl (lplace k) s0:=by rw [List.range_succ,List.foldl_append,← HFO.out];exact e1
               exact ⟨j + 1,t,nw,by omega,rfl,by go_num,hL2,hS2,hP2,e2,hT2⟩
           ·
            have e6 : (opN k j == 6) = false:=by simpa using h6
            have e7 : (opN k j == 7) = false:=by simpa using h7
            rw [show bhd (opN k j) (argN k j) (gt s.2 j) = gt s.2 j from by rw [bhd,if_neg h6,if_neg h7]] at HEQ HNX hh;generalize gt s.2 j = h at *;clear h4 h6 h7;have a6:=cell_below (below_alloc0 wr (.cells #[.int .i64 (opN k j),.int .i64 (argN k j),.int .i64 k.ins[j].term.kind,.int .i64 k.ins[j].term.num,.string k.ins[j].term.name,.slice A' k.ins[j].term.kids.length c',.int .i64 k.ins[j].to] 52)) c6;have ax:=cell_below (below_alloc0 wr (.cells #[.int .i64 (opN k j),.int .i64 (argN k j),.int .i64 k.ins[j].term.kind,.int .i64 k.ins[j].term.num,.string k.ins[j].term.name,.slice A' k.ins[j].term.kids.length c',.int .i64 k.ins[j].to] 52)) cx;have a0:=cell_below (below_alloc0 wr (.cells #[.int .i64 (opN k j),.int .i64 (argN k j),.int .i64 k.ins[j].term.kind,.int .i64 k.ins[j].term.num,.string k.ins[j].term.name,.slice A' k.ins[j].term.kids.length c',.int .i64 k.ins[j].to] 52)) c0;have a1:=cell_below (below_alloc0 wr (.cells #[.int .i64 (opN k j),.int .i64 (argN k j),.int .i64 k.ins[j].term.kind,.int .i64 k.ins[j].term.num,.string k.ins[j].term.name,.slice A' k.ins[j].term.kids.length c',.int .i64 k.ins[j].to] 52)) c1;have a2:=cell_below (below_alloc0 wr (.cells #[.int .i64 (opN k j),.int .i64 (argN k j),.int .i64 k.ins[j].term.kind,.int .i64 k.ins[j].term.num,.string k.ins[j].term.name,.slice A' k.ins[j].term.kids.length c',.int .i64 k.ins[j].to] 52)) c2;have a3:=cell_below (below_alloc0 wr (.cells #[.int .i64 (opN k j),.int .i64 (argN k j),.int .i64 k.ins[j].term.kind,.int .i64 k.ins[j].term.num,.string k.ins[j].term.name,.slice A' k.ins[j].term.kids.length c',.int .i64 k.ins[j].to] 52)) c3;have a4:=cell_below (below_alloc0 wr (.cells #[.int .i64 (opN k j),.int .i64 (argN k j),.int .i64 k.ins[j].term.kind,.int .i64 k.ins[j].term.num,.string k.ins[j].term.name,.slice A' k.ins[j].term.kids.length c',.int .i64 k.ins[j].to] 52)) c4;go_wp2_with fail
            have hba:=below_alloc0 wr (.cells #[.int .i64 (opN k j),.int .i64 (argN k j),.int .i64 k.ins[j].term.kind,.int .i64 k.ins[j].term.num,.string k.ins[j].term.name,.slice A' k.ins[j].term.kids.length c',.int .i64 k.ins[j].to] 52);generalize wr.alloc (.cells #[.int .i64 (opN k j),.int .i64 (argN k j),.int .i64 k.ins[j].term.kind,.int .i64 k.ins[j].term.num,.string k.ins[j].term.name,.slice A' k.ins[j].term.kids.length c',.int .i64 k.ins[j].to] 52) = wa at hba ⊢;have hLa:=hL.below hba;have hTa:=hT.trans (Tch.of_below hba);clear a6 ax a0 a1 a2 a3 a4 c0 c1 c2 c3 c4 c5 c6 cm cx k0 k1 k2 k3 k4 k5 k6 q1 q2 hbxr hL hT hba;clear e4 e6 e7;have hbxa:=HT3.out _ hTa;obtain ⟨q1,q2,c0,c1,c2,c3,c4⟩:=id hbxa;rw [← HEA.out];refine (HNXT.out j hlt _ (hkf.below q1)).mono ?_;rintro e w9 ⟨An,cn,rfl,hon,hb9⟩;obtain ⟨l9,h9,hon⟩ : ∃ l9,(g < l9 ∧ gm < l9 ∧ gx < l9) ∧ w9.ownsRow l9 3 1 (.slice An (nextL k j).length cn) (nextL k j).length (nv (nextL k j)):=⟨_,⟨hLa.lt,(own_lt hLa.rm).2,(own_lt hLa.rx).2⟩,hon⟩
            have HG9:=Lib.hid h9;have hL1:=hLa.below hb9;have hT1:=hTa.trans (Tch.of_below hb9);have hnl:=nextL_len k j;generalize nextL k j = ns at hon HEQ HNX hnl ⊢;clear q1 q2 c0 c1 c2 c3 c4 hb9 hLa hTa h9 hbxa;go_wp2_with fail
            obtain ⟨wo,rfl⟩ : ∃ wo : World,wo = wr:=⟨_,rfl⟩
            go_loopg [11] ns.length (fun l i wr=>∃ (m : Nat) (t : List Bool × List Nat) (nw : Bool),m ≤ ns.length ∧ l = ns.length - m ∧ i = .int .i64 m ∧ LK wr W.heap.size g gm gx v k t.1 t.2 nw ∧ LookS k t ∧ PutR k s0 nw t ∧ t = (ns.take m).foldl (lput h) s ∧ Tch g gm gx w3 wr ∧ wr.ownsRow l9 3 1 (.slice An ns.length cn) ns.length (nv ns))
            case atStart=>exact ⟨0,s,nw0,by omega,by omega,rfl,hL1,hS,hP,rfl,hT1,hon⟩
            case round =>
             clear hL1 hS hP hT1 hon;obtain ⟨m,t,nw,hm,rfl,rfl,hL2,hS2,hP2,ht,hT2,hon⟩:=hrel;have HTT:=Lib.hid ht;clear ht;by_cases hltm : m < ns.length
             ·
              obtain ⟨adn,rfl,hbn,hcn⟩:=(own_rd hon).nat hltm;obtain ⟨hxl,hmet,hmay⟩:=HNX.out ns[m] (List.getElem_mem hltm);have HMY:=Lib.hid hmay;have HMT:=Lib.hid hmet;clear hmay hmet;have HST:=Lib.hid (fold_take (lput h) ns s hltm);generalize ns[m] = y at *;have hgt:=hS2.may.lt HR.out y;have HPT:=Lib.hid (l16Put_any g gm gx v k y h t.1 t.2 nw wr hL2 hxl hins hh hgt);have hSn:=hS2.put HMT.out (g:=h) HMY.out;have hPn:=hP2.put (g:=h) (x:=y) (by rw [hL2.mlen];exact hxl) (by rw [hL2.xlen];exact hxl) hL2.xlen (fun i=>hSn.may.lt HR.out i);have HS3:=Lib.hid hSn;have HP3:=Lib.hid hPn;have z1 : (0 : Int) ≤ (m : Int):=by omega
              have z2 : (m : Int) < (ns.length : Int):=by omega
              clear hSn hPn hL2 hS2 hP2;go_wp2_with fail
              refine HPT.out.mono ?_;rintro e w10 ⟨rfl,hL3,hT3⟩;go_wp2_with fail
              go_roundg (ns.length - (m + 1))
              case measure=>omega
              case rel=>exact ⟨m + 1,lput h t y,nw || chg h t.1 t.2 y,by omega,rfl,by go_num,hL3,HS3.out,HP3.out,by rw [HST.out,← HTT.out],hT2.trans hT3,hT3.own hon HG9.out.1 HG9.out.2.1 HG9.out.2.2⟩
             ·
              obtain rfl : m = ns.length:=by omega
              go_wp2_with fail
              go_roundg (k.ins.length - (j + 1))
              case measure=>omega
              case rel =>
               have e1 : t = lplace k s j:=by rw [HTT.out,List.take_length];exact HEQ.out
               have e2 : t = (List.range (j + 1)).foldl (lplace k) s0:=by rw [List.range_succ,List.foldl_append,← HFO.out];exact e1
               exact ⟨j + 1,t,nw,by omega,rfl,by go_num,hL2,hS2,hP2,e2,hT2⟩
       ·
        obtain rfl : j = k.ins.length:=by omega
        clear c0 c1 c2 c3 c4 q1 q2 hbxr;obtain ⟨q1,q2,c0,c1,c2,c3,c4⟩:=HT3.out _ hT;go_wp2_with fail
        go_roundg (2 * room k s + (if nw0 then 1 else 0))
        case measure =>
         cases nw0
         · rw [hP.no rfl];simp
         · have:=hP.yes rfl;simp;omega
        case rel=>exact ⟨s,nw0,hL,hS,fun h=>by have h1:=hP.no h;have h2:=HFO.out;rw [h1] at h2 ⊢;exact h2.symm,rfl,hT⟩
end Go.Proofs.YtkgoajnnkimkaaaGreat
namespace Go.Proofs.YtkgoajnnkimkaaaGreat
open Go.ChangeShapes Go.WideShapes Go.ChangeAt Go.RowKit
theorem append_ts_op {o : Oper} {a : Act} {Q : Exit → Act → World → Prop} {K : Act → World → Prop} {wr : World} (s x : Operand) (ho : o.op = .call { callee := .builtin .append, args := #[s, x], argTypes := #[62, 62] })
  {base base' : Nat} {v : Value} {n : Nat} {ts us : List Tt} {A6 : Option Addr} {c6 : Nat} (hown : wr.ownsRow base 66 4 v n (tCells ts)) (hs : a.eval s = v) (hx : a.eval x = .slice A6 us.length c6) (hnew : wr.ownsRow base' 66 4 (.slice A6 us.length c6) us.length (tCells us))
  (hn : n + us.length ≤ 1000000) (hbase : base ≤ wr.heap.size)
  (hK : ∀ A c w',w'.ownsRow base 66 4 (.slice A (n + us.length) c) (n + us.length) (tCells (ts ++ us)) → wr.grownBy w' v.ownBlock → ((Value.slice A (n + us.length) c).ownBlock = v.ownBlock ∨ (Value.slice A (n + us.length) c).ownBlock = some wr.heap.size) →
   K (a.put o.dst (.slice A (n + us.length) c)) w') : Oper.wp Tryz.prog o a wr K Q:=by
 obtain ⟨i0,hi,hz0,hz1,hz2⟩:=info_parts info_touch;rcases hnew.2 with ⟨e6,h0⟩ | ⟨g6,cap6,cur6,e6,_⟩
 · injection e6 with e1 e2 e3;subst e1 e3;have hus : us = []:=List.eq_nil_of_length_eq_zero h0;subst hus;have hrun:=run_append_owned_none (P:=Tryz.prog) (w:=wr) base 62 o.type 66 i0 4 Tryz.underlying62 hi v n (tCells ts) hown;obtain ⟨A,c,rfl⟩:=own_form hown;unfold Oper.wp execOp;simp only [ho,resolve,invoke,builtin,Sem.run_bind,Sem.run_pure,Result.andThen_ok,List.map_toArray,List.map_cons,List.map_nil,hs,hx,List.length_nil,hrun];exact hK A c wr (by simpa using hown) (World.grownBy.refl _ _) (.inl rfl)
 ·
  injection e6 with e1 e2 e3;subst e1;obtain ⟨v',w',hr,h2,h3,_,h4⟩:=run_append_own_at (P:=Tryz.prog) wr base 62 o.type 66 i0 (.agg #[.int .i64 0,.int .i64 0,.bool false,.int .i64 0]) 4 32 Tryz.underlying62 hi hz0 hz1 hz2 rfl (by omega) v n (tCells ts) hown ⟨g6,0,none⟩ us.length c6 (tCells us)
   (tCells_len us) (fun j u hu=>by
    have hj : j < us.length * 4:=by rw [← tCells_len];exact (List.getElem?_eq_some_iff.1 hu).1
    rw [add_mk,hnew.cellAt j hj];exact hu) (tCells_one us) (by unfold maxLen;omega) (by omega) hbase
  obtain ⟨A,c,rfl⟩:=own_form h2;unfold Oper.wp execOp;simp only [ho,resolve,invoke,builtin,Sem.run_bind,Sem.run_pure,Result.andThen_ok,List.map_toArray,List.map_cons,List.map_nil,hs,hx,hr];exact hK A c w' (by rw [tCells_append];exact h2) h3 (by simpa using h4)
noncomputable def toL (k : Cd) (ps : List Nat) : List Tt:=ps.flatMap fun a=>touchL k a (gt (mustN k) a)
theorem toL_snoc (k : Cd) (ps : List Nat) (a : Nat) : toL k (ps ++ [a]) = toL k ps ++ touchL k a (gt (mustN k) a):=by simp [toL]
theorem touchL_12 {k : Cd} (hr : Right k) (a h : Nat) : (touchL k a h).length ≤ 12:=by have:=touchL_len k a h;have:=hr.globals;omega
theorem toL_len {k : Cd} (hr : Right k) (ps : List Nat) : (toL k ps).length ≤ 12 * ps.length:=by
 induction ps with
 | nil=>simp [toL]
 | cons a r ih =>
  have h1:=touchL_12 hr a (gt (mustN k) a);have e : toL k (a :: r) = touchL k a (gt (mustN k) a) ++ toL k r:=by simp [toL]
  rw [e,List.length_append,List.length_cons];omega
noncomputable def touchesN (k : Cd) : List Tt:=toL k (listN k.ins.length (MetP k))
theorem touches_any {B L : Nat} (g : Nat) (v : CV) (k : Cd) (w : World) (hr : Right k) (hW : WAt w B g v k) (hcb : CdB L k) (hL : L ≤ 1048576) :
  Calls Tryz.prog 144 #[.pointer (some ⟨g,0,none⟩)] w (NewT w (touchesN k)):=by
 have hWf:=hW.full;have hkf:=hWf.code;have hins:=hr.ins;have HKT:=Lib.hid (fun W (hb : Below w.heap.size w W)=>hWf.kat.to hb);have HMU:=Lib.hid (fun W (hb : Below w.heap.size w W)=>must_any g v k W hr (hWf.below hb));have HME:=Lib.hid (fun W (hb : Below w.heap.size w W)=>met_any g v k W hr (hWf.below hb));have HMK:=Lib.hid (fun A c W B' (h : Rd W B' A ((markL k.ins.length (MetP k)).map bv))=>(show Calls Tryz.prog 119 #[.slice A k.ins.length c] W (NewNats W (listN k.ins.length (MetP k))) from by
  have HD:=marked_any A c (markL k.ins.length (MetP k)) W h (by rw [markL_len];omega);rw [listN_markL,markL_len] at HD;exact HD))
 have HT:=Lib.hid (fun a h (ha : a < k.ins.length) W (hb : Below w.heap.size w W)=>touchesIn_any v k a h W hr (hkf.below hb) hcb hL ha);have HT12:=Lib.hid (fun a h=>touchL_12 hr a h);have HTL:=Lib.hid (fun ps=>toL_len hr ps);have HXL:=Lib.hid (show ∀ a ∈ listN k.ins.length (MetP k),a < k.ins.length from fun a h=>(mem_listN.1 h).1);have hll:=listN_len k.ins.length (MetP k);have HTN:=Lib.hid (show touchesN k = toL k (listN k.ins.length (MetP k)) from rfl);clear hr hW hWf hkf hcb
 go_enter Tryz.func144, Tryz.ntmps144
 go_wp2_with fail
 refine (HMU.out _ (Below.refl _ _)).mono ?_;rintro e w1 ⟨Au,cu,rfl,hou,hb1⟩;rw [mustN_len] at hou ⊢;go_wp2_with fail
 refine (HME.out _ hb1).mono ?_;rintro e w2 ⟨Am,cm,rfl,hom,hb2⟩;rw [markL_len];go_wp2_with fail
 refine (HMK.out Am cm _ _ (own_rd hom)).mono ?_;rintro e w4 ⟨Al,cl,rfl,hol,hb4⟩;have h04:=below_trans' (below_trans' hb1 hb2) hb4;have hru:=((own_rd hou).below (below_trans' hb2 hb4)).full;have hrl:=own_rd hol;obtain ⟨c0,c1,c2,c3,c4⟩:=HKT.out _ h04;clear hou hom hol hb1 hb2 hb4;generalize listN k.ins.length (MetP k) = ls at *;go_wp2_with fail
 go_loopg [4,13] ls.length (fun l out i wr=>∃ j : Nat,j ≤ ls.length ∧ l = ls.length - j ∧ i = .int .i64 j ∧ wr.ownsRow w4.heap.size 66 4 out (toL k (ls.take j)).length (tCells (toL k (ls.take j))) ∧ Below w4.heap.size w4 wr)
 case atStart=>exact ⟨0,by omega,by omega,rfl,World.ownsRow_nil _ _ _ _,Below.refl _ _⟩
 case round =>
  obtain ⟨j,hj,rfl,rfl,ho,hb⟩:=hrel;obtain ⟨co,Ao,rfl⟩ : ∃ co Ao,_:=by
   obtain ⟨Ao,co,e⟩:=own_form ho;exact ⟨co,Ao,e⟩
  have hsz:=hb.size;have htl:=HTL.out (ls.take j);rw [List.length_take] at htl;by_cases hlt : j < ls.length
  ·
   obtain ⟨adl,eal,_,hcl⟩:=(hrl.below hb).nat hlt;have hal:=HXL.out ls[j] (List.getElem_mem hlt);have HTK:=Lib.hid (show toL k (ls.take (j + 1)) = toL k (ls.take j) ++ touchL k ls[j] (gt (mustN k) ls[j]) from by rw [List.take_succ_eq_append_getElem hlt,toL_snoc]);generalize ls[j] = a at *;subst eal;obtain ⟨adu,eau,_,hcm⟩:=hru.nat (j:=a) (by rw [mustN_len];exact hal);subst eau;rw [gt_get (xs:=mustN k) (by rw [mustN_len];exact hal)] at hcm;have z1 : (0 : Int) ≤ (j : Int):=by omega
   have z2 : (j : Int) < (ls.length : Int):=by omega
   have x1 : (0 : Int) ≤ (a : Int):=by omega
   have x2 : (a : Int) < (k.ins.length : Int):=by omega
   go_wp2_with fail
   refine wp_region_held_drew (S:=fun w'=>Below w4.heap.size w4 w') (by kernel_rfl) (hb.drew) (fun hHeld=>?_);first | refine hs_ 0 ?_ | (refine hr_ 0 ?_ ?_ ?_;rotate_left;(intro W hW;obtain ⟨f0,f1,f2,f3,f4,f5⟩:=cb6 hW c0 c1 c2 c3 c4 hcm;go_simp;try with_reducible rfl))
   first | refine hs_ 1 ?_ | (refine hr_ 1 ?_ ?_ ?_;rotate_left;(intro W hW;obtain ⟨f0,f1,f2,f3,f4,f5⟩:=cb6 hW c0 c1 c2 c3 c4 hcm;go_simp;try with_reducible rfl))
   first | refine hs_ 2 ?_ | (refine hr_ 2 ?_ ?_ ?_;rotate_left;(intro W hW;obtain ⟨f0,f1,f2,f3,f4,f5⟩:=cb6 hW c0 c1 c2 c3 c4 hcm;go_simp;try with_reducible rfl))
   first | refine hs_ 3 ?_ | (refine hr_ 3 ?_ ?_ ?_;rotate_left;(intro W hW;obtain ⟨f0,f1,f2,f3,f4,f5⟩:=cb6 hW c0 c1 c2 c3 c4 hcm;go_simp;try with_reducible rfl))
   first | refine hs_ 4 ?_ | (refine hr_ 4 ?_ ?_ ?_;rotate_left;(intro W hW;obtain ⟨f0,f1,f2,f3,f4,f5⟩:=cb6 hW c0 c1 c2 c3 c4 hcm;go_simp;try with_reducible rfl))
   first | refine hs_ 5 ?_ | (refine hr_ 5 ?_ ?_ ?_;rotate_left;(intro W hW;obtain ⟨f0,f1,f2,f3,f4,f5⟩:=cb6 hW c0 c1 c2 c3 c4 hcm;go_simp;try with_reducible rfl))
   first | refine hs_ 6 ?_ | (refine hr_ 6 ?_ ?_ ?_;rotate_left;(intro W hW;obtain ⟨f0,f1,f2,f3,f4,f5⟩:=cb6 hW c0 c1 c2 c3 c4 hcm;go_simp;try with_reducible rfl))
   first | refine hs_ 7 ?_ | (refine hr_ 7 ?_ ?_ ?_;rotate_left;(intro W hW;obtain ⟨f0,f1,f2,f3,f4,f5⟩:=cb6 hW c0 c1 c2 c3 c4 hcm;go_simp;try with_reducible rfl))
   first | refine hs_ 8 ?_ | (refine hr_ 8 ?_ ?_ ?_;rotate_left;(intro W hW;obtain ⟨f0,f1,f2,f3,f4,f5⟩:=cb6 hW c0 c1 c2 c3 c4 hcm;go_simp;try with_reducible rfl))
   first | refine hs_ 9 ?_ | (refine hr_ 9 ?_ ?_ ?_;rotate_left;(intro W hW;obtain ⟨f0,f1,f2,f3,f4,f5⟩:=cb6 hW c0 c1 c2 c3 c4 hcm;go_simp;try with_reducible rfl))
   refine ho_ 10 fun K hK=>?_;go_simp
   refine (HT.out a _ hal _ (below_trans' h04 hHeld)).mono ?_;rintro e w6 ⟨A6,c6,rfl,ho6,hb6⟩;have ho5:=own_below (w:=wr.drew) ho hb6;have hsz6:=Nat.le_trans hsz hb6.size;have h12:=HT12.out a (gt (mustN k) a);refine hk_ hK (below_trans' hHeld hb6) fun hHeld=>?_;clear hK K;refine ho_ 11 fun K hK=>?_;refine append_ts_op _ _ rfl ho5 rfl rfl ho6 (by omega) hsz6 ?_;intro A7 c7 w7 ho7 hg7 hv7;have hHeld7:=below_append hHeld ho5 hg7 hsz6 (Nat.le_refl _);refine hk_ hK (hHeld7) fun hHeld=>?_;clear hK K;first | refine hs_ 12 ?_ | (refine hr_ 12 ?_ ?_ ?_;rotate_left;(intro W hW;obtain ⟨f0,f1,f2,f3,f4,f5⟩:=cb6 hW c0 c1 c2 c3 c4 hcm;go_simp;try with_reducible rfl))
   refine wpAnyH_done (by kernel_rfl) ?_ _;go_wp2_with fail
   go_roundg (ls.length - (j + 1))
   case measure=>omega
   case rel=>exact ⟨j + 1,by omega,rfl,by go_num,by rw [HTK.out,List.length_append];exact ho7,hHeld⟩
  ·
   obtain rfl : j = ls.length:=by omega
   have HFI:=Lib.hid (show NewT w (touchesN k) (.returned (.slice Ao (toL k (ls.take ls.length)).length co)) wr from by
    rw [List.take_length] at ho ⊢;rw [HTN.out];exact ⟨Ao,co,rfl,own_mono ho h04.size,below_trans' h04 hb⟩)
   go_wp2_with fail
   go_ret
   exact HFI.out
theorem l17All_any {B L : Nat} (v : CV) (k : Cd) (w : World) (hr : Right k) (hk : CodeAt w B v k) (hcb : CdB L k) (hL : L ≤ 1048576) :
  Calls Tryz.prog 145 #[.agg #[.slice v.gA k.globals.length v.gc, .slice v.lA k.locks.length v.lc, .slice v.pA k.procs.length v.pc, .slice v.eA k.entry.length v.ec, .slice v.iA k.ins.length v.ic]] w (NewT w (touchesN k)):=by
 have hkf:=hk.full;have hins:=hr.ins;have hbx : CodeBox w v k ((w.alloc (.cells #[.slice v.gA k.globals.length v.gc, .slice v.lA k.locks.length v.lc, .slice v.pA k.procs.length v.pc, .slice v.eA k.entry.length v.ec, .slice v.iA k.ins.length v.ic] 28)).alloc (.cells #[] 66)):=(codeBox w v k).to (below_alloc0 _ _);have hpo : ((w.alloc (.cells #[.slice v.gA k.globals.length v.gc, .slice v.lA k.locks.length v.lc, .slice v.pA k.procs.length v.pc, .slice v.eA k.entry.length v.ec, .slice v.iA k.ins.length v.ic] 28)).alloc (.cells #[] 66)).ownsRow (w.heap.size + 1) 66 4 (.slice (some ⟨w.heap.size + 1,0,none⟩) 0 0) 0 (tCells []):=by
  have:=World.ownsRow_lit (base:=w.heap.size + 1) (e := 66) (size:=4) (w.alloc (.cells #[.slice v.gA k.globals.length v.gc, .slice v.lA k.locks.length v.lc, .slice v.pA k.procs.length v.pc, .slice v.eA k.entry.length v.ec, .slice v.iA k.ins.length v.ic] 28)) #[] 0 (by simp) (by simp) rfl;simpa [tCells] using this
 have hW2 : w.heap.size + 1 < ((w.alloc (.cells #[.slice v.gA k.globals.length v.gc, .slice v.lA k.locks.length v.lc, .slice v.pA k.procs.length v.pc, .slice v.eA k.entry.length v.ec, .slice v.iA k.ins.length v.ic] 28)).alloc (.cells #[] 66)).heap.size:=by simp
 have HMU:=Lib.hid (fun W (hb : Below w.heap.size w W)=>l15Must_any v k W hr (hkf.below hb) hcb hL);have HME:=Lib.hid (fun W (hb : Below w.heap.size w W)=>l16All_any v k W hr (hkf.below hb) hcb hL);have HT:=Lib.hid (fun a h (ha : a < k.ins.length) W (hb : Below w.heap.size w W)=>l17At_any v k a h W hr (hkf.below hb) hcb hL ha);have HT12:=Lib.hid (fun a h=>touchL_12 hr a h);have HTL:=Lib.hid (fun ps=>toL_len hr ps);have HTN:=Lib.hid (show touchesN k = toL k (listN k.ins.length (MetP k)) from rfl);clear hr hk hkf hcb
 go_enter Tryz.func145, Tryz.ntmps145
 go_wp2_with fail
 generalize (w.alloc (.cells #[.slice v.gA k.globals.length v.gc, .slice v.lA k.locks.length v.lc, .slice v.pA k.procs.length v.pc, .slice v.eA k.entry.length v.ec, .slice v.iA k.ins.length v.ic] 28)).alloc (.cells #[] 66) = W at hbx hpo hW2 ⊢;refine (HMU.out _ hbx.1).mono ?_;rintro e w2 ⟨Au,cu,rfl,hou,hb2⟩;rw [mustN_len] at hou ⊢;have hbx2:=hbx.to hb2;have ho2:=own_below hpo hb2;obtain ⟨q1,q2,c0,c1,c2,c3,c4⟩:=id hbx2;go_wp2_with fail
 refine (HME.out _ hbx2.1).mono ?_;rintro e w3 ⟨g,gm,gx,rfl,hLK,hb3⟩;have hbx3:=hbx2.to hb3;have ho3:=own_below ho2 hb3;have c5:=hLK.cell 5 rfl;have hw12 : w.heap.size + 1 < w2.heap.size:=Nat.lt_of_lt_of_le hW2 hb2.size;have hw13 : w.heap.size + 1 < w3.heap.size:=Nat.lt_of_lt_of_le hw12 hb3.size;have hou3:=own_below hou hb3;have HRU:=Lib.hid (fun V (h : Tch (w.heap.size + 1) (w.heap.size + 1) (w.heap.size + 1) w3 V)=>own_rd (h.own hou3 hW2 hW2 hW2));have HRM:=Lib.hid (fun V (h : Tch (w.heap.size + 1) (w.heap.size + 1) (w.heap.size + 1) w3 V)=>h.own hLK.rm hw12 hw12 hw12);have HBX:=Lib.hid (fun V (h : Tch (w.heap.size + 1) (w.heap.size + 1) (w.heap.size + 1) w3 V)=>hbx3.at (h.below (B:=w.heap.size + 1) (Nat.le_of_lt hw13) (Nat.le_refl _) (Nat.le_refl _) (Nat.le_refl _)) (by omega));clear q1 q2 c0 c1 c2 c3 c4 hou hb2 hb3 hpo ho2 hbx hbx2 hou3 hLK;obtain ⟨q1,q2,c0,c1,c2,c3,c4⟩:=id hbx3;go_wp2_with fail
 clear q1 q2 c0 c1 c2 c3 c4 c5 hbx3;go_loopg [3,6] k.ins.length (fun l out i wr=>∃ j : Nat,j ≤ k.ins.length ∧ l = k.ins.length - j ∧ i = .int .i64 j ∧ wr.ownsRow (w.heap.size + 1) 66 4 out (toL k (listN j (MetP k))).length (tCells (toL k (listN j (MetP k)))) ∧ OBk (w.heap.size + 1) w3.heap.size out ∧ Tch (w.heap.size + 1) (w.heap.size + 1) (w.heap.size + 1) w3 wr)
 case atStart=>exact ⟨0,by omega,by omega,rfl,ho3,fun b hb=>.inl (by injection hb with hb;exact hb.symm),Tch.refl _ _ _ _⟩
 case round =>
  clear ho3;obtain ⟨i,hj,rfl,rfl,ho,hOB,hT⟩:=hrel;obtain ⟨co,Ao,rfl⟩ : ∃ co Ao,_:=by
   obtain ⟨Ao,co,e⟩:=own_form ho;exact ⟨co,Ao,e⟩
  have htl:=HTL.out (listN i (MetP k));have hli:=listN_len i (MetP k);have hbxr:=HBX.out _ hT;obtain ⟨q1,q2,c0,c1,c2,c3,c4⟩:=id hbxr;by_cases hlt : i < k.ins.length
  ·
   have hcm:=own_at (HRM.out _ hT) (j:=i) hlt (u:=.bool (mkd (markL k.ins.length (MetP k)) i)) (by rw [List.getElem?_map,List.getElem?_eq_getElem (by rw [markL_len];exact hlt),mkd_get (by rw [markL_len];exact hlt)];rfl);obtain ⟨adu,eau,_,_⟩:=(HRU.out _ hT).nat (j:=i) (by rw [mustN_len];exact hlt);subst eau;have HMC:=Lib.hid (show ∀ V,Tch (w.heap.size + 1) (w.heap.size + 1) (w.heap.size + 1) w3 V → V.cell? (adu.add i) = some (.int .i64 ((gt (mustN k) i : Nat) : Int)) from fun V h=>by
    obtain ⟨ad,e,_,c⟩:=(HRU.out _ h).nat (j:=i) (by rw [mustN_len];exact hlt);injection e with e;subst e;rw [gt_get (xs:=mustN k) (by rw [mustN_len];exact hlt)] at c;exact c)
   have z1 : (0 : Int) ≤ (i : Int):=by omega
   have z2 : (i : Int) < (k.ins.length : Int):=by omega
   by_cases hm : MetP k i
   ·
    rw [mkd_markL_pos hlt hm] at hcm;have HTK:=Lib.hid (show toL k (listN (i + 1) (MetP k)) = toL k (listN i (MetP k)) ++ touchL k i (gt (mustN k) i) from by rw [listN_step hm,toL_snoc]);clear hm;go_wp2_with fail
    refine wp_region_held_drew (S:=fun w'=>Tch (w.heap.size + 1) (w.heap.size + 1) (w.heap.size + 1) w3 w') (by kernel_rfl) (hT.drew) (fun hHeld=>?_);first | refine hs_ 0 ?_ | (refine hr_ 0 ?_ ?_ ?_;rotate_left;(intro W hW;obtain ⟨_,_,f0,f1,f2,f3,f4⟩:=HBX.out _ hW;have f5:=HMC.out _ hW;go_simp;try with_reducible rfl))
    first | refine hs_ 1 ?_ | (refine hr_ 1 ?_ ?_ ?_;rotate_left;(intro W hW;obtain ⟨_,_,f0,f1,f2,f3,f4⟩:=HBX.out _ hW;have f5:=HMC.out _ hW;go_simp;try with_reducible rfl))
    first | refine hs_ 2 ?_ | (refine hr_ 2 ?_ ?_ ?_;rotate_left;(intro W hW;obtain ⟨_,_,f0,f1,f2,f3,f4⟩:=HBX.out _ hW;have f5:=HMC.out _ hW;go_simp;try with_reducible rfl))
    first | refine hs_ 3 ?_ | (refine hr_ 3 ?_ ?_ ?_;rotate_left;(intro W hW;obtain ⟨_,_,f0,f1,f2,f3,f4⟩:=HBX.out _ hW;have f5:=HMC.out _ hW;go_simp;try with_reducible rfl))
    first | refine hs_ 4 ?_ | (refine hr_ 4 ?_ ?_ ?_;rotate_left;(intro W hW;obtain ⟨_,_,f0,f1,f2,f3,f4⟩:=HBX.out _ hW;have f5:=HMC.out _ hW;go_simp;try with_reducible rfl))
    first | refine hs_ 5 ?_ | (refine hr_ 5 ?_ ?_ ?_;rotate_left;(intro W hW;obtain ⟨_,_,f0,f1,f2,f3,f4⟩:=HBX.out _ hW;have f5:=HMC.out _ hW;go_simp;try with_reducible rfl))
    first | refine hs_ 6 ?_ | (refine hr_ 6 ?_ ?_ ?_;rotate_left;(intro W hW;obtain ⟨_,_,f0,f1,f2,f3,f4⟩:=HBX.out _ hW;have f5:=HMC.out _ hW;go_simp;try with_reducible rfl))
    refine ho_ 7 fun K hK=>?_;go_simp
    refine (HT.out i _ hlt _ (HBX.out _ hHeld).1).mono ?_;rintro e w6 ⟨A6,c6,rfl,ho6,hb6⟩;have ho5:=own_below (w:=wr.drew) ho hb6;have hHeld6:=hHeld.trans (Tch.of_below hb6);have hsz6 : w.heap.size + 1 ≤ w6.heap.size:=Nat.le_trans (Nat.le_of_lt hw13) hHeld6.size;have h12:=HT12.out i (gt (mustN k) i);refine hk_ hK (hHeld6) fun hHeld=>?_;clear hK K;refine ho_ 8 fun K hK=>?_;refine append_ts_op _ _ rfl ho5 rfl rfl ho6 (by omega) hsz6 ?_;intro A7 c7 w7 ho7 hg7 hv7;have hHeld7:=hHeld.app hg7 hOB;have hsz7:=hHeld.size;have hOB7 : OBk (w.heap.size + 1) w3.heap.size _:=fun b hb=>hv7.elim (fun e=>hOB b (e.symm.trans hb)) (fun e=>by rw [e] at hb;injection hb with hb;exact .inr (by omega));refine hk_ hK (hHeld7) fun hHeld=>?_;clear hK K;first | refine hs_ 9 ?_ | (refine hr_ 9 ?_ ?_ ?_;rotate_left;(intro W hW;obtain ⟨_,_,f0,f1,f2,f3,f4⟩:=HBX.out _ hW;have f5:=HMC.out _ hW;go_simp;try with_reducible rfl))
    refine wpAnyH_done (by kernel_rfl) ?_ _;clear q1 q2 c0 c1 c2 c3 c4;go_wp2_with fail
    go_roundg (k.ins.length - (i + 1))
    case measure=>omega
    case rel=>exact ⟨i + 1,by omega,rfl,by go_num,by rw [HTK.out,List.length_append];exact ho7,hOB7,hHeld⟩
   ·
    rw [mkd_markL_neg hm] at hcm;have HTK:=Lib.hid (show listN (i + 1) (MetP k) = listN i (MetP k) from listN_skip hm);clear hm;go_wp2_with fail
    go_roundg (k.ins.length - (i + 1))
    case measure=>omega
    case rel=>exact ⟨i + 1,by omega,rfl,by go_num,by rw [HTK.out];exact ho,hOB,hT⟩
  ·
   obtain rfl : i = k.ins.length:=by omega
   have HFI:=Lib.hid (show NewT w (touchesN k) (.returned (.slice Ao (toL k (listN k.ins.length (MetP k))).length co)) wr from by
    rw [HTN.out];exact ⟨Ao,co,rfl,own_mono ho (by omega),hbxr.1⟩)
   go_wp2_with fail
   go_ret
   exact HFI.out
noncomputable def codeT (k : Cd) (ts : List Tt) : List Tt:=if codeOkI k = true then ts else []
theorem codeT_no {k : Cd} {ts : List Tt} (h : codeOkI k = false) : codeT k ts = []:=by rw [codeT,if_neg (by rw [h];simp)]
theorem codeT_yes {k : Cd} {ts : List Tt} (h : codeOkI k = true) : codeT k ts = ts:=by rw [codeT,if_pos h]
theorem codeT_len (k : Cd) : (codeT k (touchesN k)).length ≤ 18000:=by
 cases h : codeOkI k
 · rw [codeT_no h];simp
 · rw [codeT_yes h];have h1:=toL_len (right_of h) (listN k.ins.length (MetP k));have h2:=listN_len k.ins.length (MetP k);have h3:=(right_of h).ins;unfold touchesN;omega
theorem touchesOf_i {B L : Nat} (v : CV) (k : Cd) (w : World) (hk : CodeAt w B v k) (hcb : CdB L k) (hL : L ≤ 1048576) :
  Calls Tryz.prog 75 #[.agg #[.slice v.gA k.globals.length v.gc, .slice v.lA k.locks.length v.lc, .slice v.pA k.procs.length v.pc, .slice v.eA k.entry.length v.ec, .slice v.iA k.ins.length v.ic]] w (NewT w (codeT k (touchesN k))):=by
 have hkf:=hk.full;have hbx:=codeBox w v k;have hpl0:=hcb.procs;have hil0:=hcb.ins;cases hok : codeOkI k
 ·
  have HW:=Lib.hid (fun W (h : CodeAt W w.heap.size v k)=>worldOf_no v k W h hcb (by omega) hok);have HZ:=Lib.hid (show ∀ w',Below w.heap.size w w' → NewT w (codeT k (touchesN k)) (.returned (.slice none 0 0)) w' from fun w' h=>by rw [codeT_no hok];exact ⟨none,0,rfl,World.ownsRow_nil _ _ _ _,h⟩);clear hok hcb hk
  go_enter Tryz.func75, Tryz.ntmps75
  go_wp2_with fail
  generalize w.alloc (.cells #[.slice v.gA k.globals.length v.gc, .slice v.lA k.locks.length v.lc, .slice v.pA k.procs.length v.pc, .slice v.eA k.entry.length v.ec, .slice v.iA k.ins.length v.ic] 28) = W at hbx ⊢;refine (HW.out _ (hkf.below hbx.1)).mono ?_;rintro e w1 ⟨rfl,hb1⟩;go_wp2_with fail
  go_ret
  exact HZ.out _ (below_trans' hbx.1 hb1)
 ·
  have HR:=Lib.hid (right_of hok);have HW:=Lib.hid (fun W (h : CodeAt W w.heap.size v k)=>worldOf_yes v k W h hcb (by omega) hok);have HY:=Lib.hid (codeT_yes (ts:=touchesN k) hok);have HCB:=Lib.hid hcb;clear hok hcb hk
  go_enter Tryz.func75, Tryz.ntmps75
  go_wp2_with fail
  generalize w.alloc (.cells #[.slice v.gA k.globals.length v.gc, .slice v.lA k.locks.length v.lc, .slice v.pA k.procs.length v.pc, .slice v.eA k.entry.length v.ec, .slice v.iA k.ins.length v.ic] 28) = W at hbx ⊢;refine (HW.out _ (hkf.below hbx.1)).mono ?_;rintro e w2 ⟨g,rfl,hgl,hW2,hb1⟩;have hbx2:=hbx.to hb1;have hb02:=hbx2.1;clear hbx hb1;have HC:=Lib.hid (touches_any g v k w2 HR.out hW2 HCB.out hL);go_wp2_with fail
  refine HC.out.mono ?_;rintro e w3 ⟨A3,c3',rfl,ho3,hb3⟩;go_wp2_with fail
  go_ret
  exact NewT.more ⟨A3,c3',rfl,ho3,hb3⟩ hb02 HY.out
theorem touchesOf_s {B L : Nat} (v : CV) (k : Cd) (w : World) (hk : CodeAt w B v k) (hcb : CdB L k) (hL : L ≤ 1048576) :
  Calls Tryz.prog 77 #[.agg #[.slice v.gA k.globals.length v.gc, .slice v.lA k.locks.length v.lc, .slice v.pA k.procs.length v.pc, .slice v.eA k.entry.length v.ec, .slice v.iA k.ins.length v.ic]] w (NewT w (codeT k (touchesN k))):=by
 have hkf:=hk.full;have hbx:=codeBox w v k;have hpl0:=hcb.procs;have hil0:=hcb.ins;have HG:=Lib.hid (fun W (h : CodeAt W w.heap.size v k)=>codeOk_sI v k W h hcb (by omega));cases hok : codeOkI k
 ·
  have HZ:=Lib.hid (show ∀ W,Below w.heap.size w W → NewT w (codeT k (touchesN k)) (.returned (.slice (some ⟨W.heap.size,0,none⟩) 0 0)) (W.alloc (.cells #[] 66)) from fun W h=>by rw [codeT_no hok];exact ⟨_,_,rfl,World.ownsRow_lit _ #[] 0 h.size (by simp) rfl,below_alloc h (Nat.le_refl _) _⟩);rw [hok] at HG;clear hok hcb hk
  go_enter Tryz.func77, Tryz.ntmps77
  go_wp2_with fail
  generalize w.alloc (.cells #[.slice v.gA k.globals.length v.gc, .slice v.lA k.locks.length v.lc, .slice v.pA k.procs.length v.pc, .slice v.eA k.entry.length v.ec, .slice v.iA k.ins.length v.ic] 28) = W at hbx ⊢;refine (HG.out _ (hkf.below hbx.1)).mono ?_;rintro e w1 ⟨rfl,hb1⟩;go_wp2_with fail
  go_ret
  exact HZ.out _ (below_trans' hbx.1 hb1)
 ·
  rw [hok] at HG;have hok1 : codeOkI k = true:=hok;have HR:=Lib.hid (right_of hok1);have HY:=Lib.hid (codeT_yes (ts:=touchesN k) hok1);have HCB:=Lib.hid hcb;clear hok hok1 hcb hk
  go_enter Tryz.func77, Tryz.ntmps77
  go_wp2_with fail
  generalize w.alloc (.cells #[.slice v.gA k.globals.length v.gc, .slice v.lA k.locks.length v.lc, .slice v.pA k.procs.length v.pc, .slice v.eA k.entry.length v.ec, .slice v.iA k.ins.length v.ic] 28) = W at hbx ⊢;refine (HG.out _ (hkf.below hbx.1)).mono ?_;rintro e w2 ⟨rfl,hb2⟩;have hbx2:=hbx.to hb2;clear hbx hb2;have hk2:=hkf.below hbx2.1;have hb02:=hbx2.1;obtain ⟨_,_,c0,c1,c2,c3,c4⟩:=id hbx2;have HC:=Lib.hid (l17All_any v k w2 HR.out hk2 HCB.out hL);go_wp2_with fail
  refine HC.out.mono ?_;rintro e w3 ⟨A3,c3',rfl,ho3,hb3⟩;go_wp2_with fail
  go_ret
  exact NewT.more ⟨A3,c3',rfl,ho3,hb3⟩ hb02 HY.out
end Go.Proofs.YtkgoajnnkimkaaaGreat
namespace Go.Proofs.YtkgoajnnkimkaaaGreat
open Go.ChangeShapes Go.WideShapes Go.ChangeAt Go.RowKit
def wrL (g : Int) (ts : List Tt) : List Nat:=ts.filterMap fun t=>if t.w = true ∧ (t.g : Int) = g then some t.a else none
theorem wrL_yes {g : Int} {t : Tt} (ts : List Tt) (h : t.w = true ∧ (t.g : Int) = g) : wrL g (ts ++ [t]) = wrL g ts ++ [t.a]:=by simp [wrL,h.1,h.2]
theorem wrL_no {g : Int} {t : Tt} (ts : List Tt) (h : ¬ (t.w = true ∧ (t.g : Int) = g)) : wrL g (ts ++ [t]) = wrL g ts:=by simp [wrL,h]
theorem wrL_len (g : Int) (ts : List Tt) : (wrL g ts).length ≤ ts.length:=List.length_filterMap_le _ _
noncomputable def writersL (k : Cd) (g : Int) : List Nat:=wrL g (codeT k (touchesN k))
def orW (ts : List Tt) : Nat:=ts.foldl (fun s t=>if t.w = true then s ||| 2 ^ t.g else s) 0
theorem orW_snoc (ts : List Tt) (t : Tt) : orW (ts ++ [t]) = if t.w = true then orW ts ||| 2 ^ t.g else orW ts:=by simp [orW]
theorem orW_bit (g : Nat) : ∀ (n : Nat) (ts : List Tt),ts.length ≤ n → ((orW ts).testBit g = true ↔ wrL (g : Int) ts ≠ []):=by
 intro n;induction n with
 | zero =>
  intro ts h;obtain rfl : ts = []:=List.eq_nil_of_length_eq_zero (by omega);simp [orW,wrL]
 | succ n ih =>
  intro ts h;rcases nil_or_snoc ts with rfl | ⟨r,t,rfl⟩
  · simp [orW,wrL]
  ·
   have ih:=ih r (by simp at h;omega);rw [orW_snoc];by_cases hw : t.w = true
   ·
    rw [if_pos hw,Nat.testBit_or,Bool.or_eq_true,ih,Nat.testBit_two_pow,decide_eq_true_iff];by_cases hg : t.g = g
    · rw [wrL_yes r ⟨hw,by rw [hg]⟩];simp [hg]
    · rw [wrL_no r (fun h=>hg (by have:=h.2;omega))];exact ⟨fun h=>h.resolve_right hg,.inl⟩
   · rw [if_neg hw,wrL_no r (fun h=>hw h.1)];exact ih
noncomputable def quietL (k : Cd) : List Nat:=listN k.globals.length fun g=>wrL (g : Int) (touchesN k) = []
end Go.Proofs.YtkgoajnnkimkaaaGreat
namespace Go.Proofs.YtkgoajnnkimkaaaGreat
open Go.ChangeShapes Go.WideShapes Go.ChangeAt Go.RowKit
theorem wrL_take (g : Int) {ts : List Tt} {j : Nat} (h : j < ts.length) (hy : ts[j].w = true ∧ (ts[j].g : Int) = g) : wrL g (ts.take (j + 1)) = wrL g (ts.take j) ++ [ts[j].a]:=by rw [List.take_succ_eq_append_getElem h];exact wrL_yes _ hy
theorem wrL_skip (g : Int) {ts : List Tt} {j : Nat} (h : j < ts.length) (hy : ¬ (ts[j].w = true ∧ (ts[j].g : Int) = g)) : wrL g (ts.take (j + 1)) = wrL g (ts.take j):=by rw [List.take_succ_eq_append_getElem h];exact wrL_no _ hy
theorem nv_snoc2 (xs : List Nat) (x : Nat) : ((xs.map natI) ++ [natI x]).map iv = nv (xs ++ [x]):=by simp [nv]
theorem writersOf_i {B L : Nat} (v : CV) (k : Cd) (x0 : Int) (w : World) (hk : CodeAt w B v k) (hcb : CdB L k) (hL : L ≤ 1048576) :
  Calls Tryz.prog 67 #[.agg #[.slice v.gA k.globals.length v.gc, .slice v.lA k.locks.length v.lc, .slice v.pA k.procs.length v.pc, .slice v.eA k.entry.length v.ec, .slice v.iA k.ins.length v.ic],.int .i64 x0] w (NewNats w (writersL k x0)):=by
 have hkf:=hk.full;have hbx:=codeBox w v k;have hlen:=codeT_len k;have HWL:=Lib.hid (show writersL k x0 = wrL x0 (codeT k (touchesN k)) from rfl);have HT:=Lib.hid (fun W (hb : Below w.heap.size w W)=>touchesOf_i v k W (hkf.below hb) hcb hL);clear hk hcb hkf;generalize codeT k (touchesN k) = ts at *
 go_enter Tryz.func67, Tryz.ntmps67
 go_wp2_with fail
 generalize w.alloc (.cells #[.slice v.gA k.globals.length v.gc, .slice v.lA k.locks.length v.lc, .slice v.pA k.procs.length v.pc, .slice v.eA k.entry.length v.ec, .slice v.iA k.ins.length v.ic] 28) = W at hbx ⊢;have hb0:=hbx.1;clear hbx;refine (HT.out _ hb0).mono ?_;rintro e w2 ⟨A2,c2,rfl,hor,hb2⟩;have hb02:=below_trans' hb0 hb2;have HRD:=Lib.hid (own_rd hor);clear hor hb2 hb0;have hw2 : w.heap.size ≤ w2.heap.size:=hb02.size;go_wp2_with fail
 go_loopg [5,11] ts.length (fun l out i wr=>∃ j : Nat,j ≤ ts.length ∧ l = ts.length - j ∧ i = .int .i64 j ∧ wr.ownsRow w2.heap.size 3 1 out (wrL x0 (ts.take j)).length (nv (wrL x0 (ts.take j))) ∧ Below w2.heap.size w2 wr)
 case atStart=>exact ⟨0,by omega,by omega,rfl,World.ownsRow_nil _ _ _ _,Below.refl _ _⟩
 case round =>
  obtain ⟨j,hj,rfl,rfl,ho,hb⟩:=hrel;obtain ⟨co,Ao,rfl⟩ : ∃ co Ao,_:=by
   obtain ⟨Ao,co,e⟩:=own_form ho;exact ⟨co,Ao,e⟩
  have hsz:=hb.size;have hpl:=Nat.le_trans (wrL_len x0 (ts.take j)) (List.length_take_le _ _);by_cases hlt : j < ts.length
  ·
   obtain ⟨ad,e2,_,l0,l1,l2,l3⟩:=(HRD.out.below hb).touch hlt;subst e2;have z1 : (0 : Int) ≤ (j : Int):=by omega
   have z2 : (j : Int) < (ts.length : Int):=by omega
   by_cases hwr : ts[j].w = true
   ·
    by_cases hg : (ts[j].g : Int) = x0
    ·
     have HS:=Lib.hid (wrL_take x0 hlt ⟨hwr,hg⟩);rw [hwr] at l2;have e1 : (((ts[j].g : Nat) : Int) == x0) = true:=by rw [beq_iff_eq];exact hg
     clear hwr hg;have b0:=box_cell wr #[.int .i64 ts[j].a,.int .i64 ts[j].g,.bool true,.int .i64 ts[j].h] 66 0 rfl;have b1:=box_cell wr #[.int .i64 ts[j].a,.int .i64 ts[j].g,.bool true,.int .i64 ts[j].h] 66 1 rfl;have b2:=box_cell wr #[.int .i64 ts[j].a,.int .i64 ts[j].g,.bool true,.int .i64 ts[j].h] 66 2 rfl;have hbb:=below_alloc hb (Nat.le_refl _) (.cells #[.int .i64 ts[j].a,.int .i64 ts[j].g,.bool true,.int .i64 ts[j].h] 66);have hoo:=ho.alloc (.cells #[.int .i64 ts[j].a,.int .i64 ts[j].g,.bool true,.int .i64 ts[j].h] 66);go_wp2_with (at_builtin;refine append_int2 (xs:=(wrL x0 (ts.take j)).map natI) (z:=natI ts[j].a) rfl _ _ rfl hoo rfl rfl (by simp) (by omega) (by simp;omega) ?_;intro A7 c7 w7 ho7 hg7 hv7)
     go_roundg (ts.length - (j + 1))
     case measure=>omega
     case rel=>exact ⟨j + 1,by omega,rfl,by go_num,by rw [HS.out,← nv_snoc2,List.length_append];exact ho7,below_append hbb hoo hg7 (by simp;omega) (Nat.le_refl _)⟩
    ·
     have HS:=Lib.hid (wrL_skip x0 hlt (fun h=>hg h.2));rw [hwr] at l2;have e1 : (((ts[j].g : Nat) : Int) == x0) = false:=by rw [beq_eq_false_iff_ne];exact hg
     clear hwr hg;have b0:=box_cell wr #[.int .i64 ts[j].a,.int .i64 ts[j].g,.bool true,.int .i64 ts[j].h] 66 0 rfl;have b1:=box_cell wr #[.int .i64 ts[j].a,.int .i64 ts[j].g,.bool true,.int .i64 ts[j].h] 66 1 rfl;have b2:=box_cell wr #[.int .i64 ts[j].a,.int .i64 ts[j].g,.bool true,.int .i64 ts[j].h] 66 2 rfl;have hbb:=below_alloc hb (Nat.le_refl _) (.cells #[.int .i64 ts[j].a,.int .i64 ts[j].g,.bool true,.int .i64 ts[j].h] 66);have hoo:=ho.alloc (.cells #[.int .i64 ts[j].a,.int .i64 ts[j].g,.bool true,.int .i64 ts[j].h] 66);go_wp2_with fail
     go_roundg (ts.length - (j + 1))
     case measure=>omega
     case rel=>exact ⟨j + 1,by omega,rfl,by go_num,by rw [HS.out];exact hoo,hbb⟩
   ·
    have hwr : ts[j].w = false:=by simpa using hwr
    have HS:=Lib.hid (wrL_skip x0 hlt (fun h=>by rw [hwr] at h;exact absurd h.1 (by simp)));rw [hwr] at l2;clear hwr;have b0:=box_cell wr #[.int .i64 ts[j].a,.int .i64 ts[j].g,.bool false,.int .i64 ts[j].h] 66 0 rfl;have b1:=box_cell wr #[.int .i64 ts[j].a,.int .i64 ts[j].g,.bool false,.int .i64 ts[j].h] 66 1 rfl;have b2:=box_cell wr #[.int .i64 ts[j].a,.int .i64 ts[j].g,.bool false,.int .i64 ts[j].h] 66 2 rfl;have hbb:=below_alloc hb (Nat.le_refl _) (.cells #[.int .i64 ts[j].a,.int .i64 ts[j].g,.bool false,.int .i64 ts[j].h] 66);have hoo:=ho.alloc (.cells #[.int .i64 ts[j].a,.int .i64 ts[j].g,.bool false,.int .i64 ts[j].h] 66);go_wp2_with fail
    go_roundg (ts.length - (j + 1))
    case measure=>omega
    case rel=>exact ⟨j + 1,by omega,rfl,by go_num,by rw [HS.out];exact hoo,hbb⟩
  ·
   obtain rfl : j = ts.length:=by omega
   have HFI:=Lib.hid (show NewNats w (writersL k x0) (.returned (.slice Ao (wrL x0 (ts.take ts.length)).length co)) wr from by
    rw [HWL.out];rw [List.take_length] at ho ⊢;exact ⟨Ao,co,rfl,own_mono ho (by omega),below_trans' hb02 hb⟩)
   go_wp2_with fail
   go_ret
   exact HFI.out
end Go.Proofs.YtkgoajnnkimkaaaGreat
namespace Go.Proofs.YtkgoajnnkimkaaaGreat
open Go.ChangeShapes Go.WideShapes Go.ChangeAt Go.RowKit
theorem touchF_g {k : Cd} {a h g : Nat} {t : Tt} (ht : t ∈ touchF k a h g) : t.g = g:=by
 unfold touchF at ht;rw [List.mem_append] at ht;rcases ht with ht | ht
 ·
  split at ht
  · simp at ht;rw [ht]
  · simp at ht
 ·
  split at ht
  · simp at ht;rw [ht]
  · simp at ht
theorem touchL_g {k : Cd} {a h : Nat} {t : Tt} (ht : t ∈ touchL k a h) : t.g < k.globals.length:=by
 unfold touchL at ht;split at ht
 · unfold touchP at ht;obtain ⟨g,hg,hm⟩:=List.mem_flatMap.1 ht;rw [touchF_g hm];exact List.mem_range.1 hg
 · simp at ht
theorem touchesN_g {k : Cd} {t : Tt} (ht : t ∈ touchesN k) : t.g < k.globals.length:=by
 unfold touchesN toL at ht;obtain ⟨a,_,hm⟩:=List.mem_flatMap.1 ht;exact touchL_g hm
theorem orW_lt : ∀ (n : Nat) (ts : List Tt),ts.length ≤ n → (∀ t ∈ ts,t.g < 6) → orW ts < 64:=by
 intro n;induction n with
 | zero =>
  intro ts h _;obtain rfl : ts = []:=List.eq_nil_of_length_eq_zero (by omega);simp [orW]
 | succ n ih =>
  intro ts h hg;rcases nil_or_snoc ts with rfl | ⟨r,t,rfl⟩
  · simp [orW]
  ·
   have ih:=ih r (by simp at h;omega) (fun x hx=>hg x (by simp [hx]));rw [orW_snoc];split
   · exact Nat.or_lt_two_pow (n:=6) ih (Nat.pow_lt_pow_right (by omega) (hg t (by simp)))
   · exact ih
theorem orW_take {ts : List Tt} {j : Nat} (h : j < ts.length) : orW (ts.take (j + 1)) = if ts[j].w = true then orW (ts.take j) ||| 2 ^ ts[j].g else orW (ts.take j):=by
 rw [List.take_succ_eq_append_getElem h,orW_snoc]
theorem quietOf_i {B L : Nat} (v : CV) (k : Cd) (w : World) (hk : CodeAt w B v k) (hcb : CdB L k) (hL : L ≤ 1048576) :
  Calls Tryz.prog 74 #[.agg #[.slice v.gA k.globals.length v.gc, .slice v.lA k.locks.length v.lc, .slice v.pA k.procs.length v.pc, .slice v.eA k.entry.length v.ec, .slice v.iA k.ins.length v.ic]] w (NewNats w (codeL k (quietL k))):=by
 have hkf:=hk.full;have hbx:=codeBox w v k;have hpl0:=hcb.procs;have hil0:=hcb.ins;cases hok : codeOkI k
 ·
  have HW:=Lib.hid (fun W (h : CodeAt W w.heap.size v k)=>worldOf_no v k W h hcb (by omega) hok);have HZ:=Lib.hid (show ∀ w',Below w.heap.size w w' → NewNats w (codeL k (quietL k)) (.returned (.slice none 0 0)) w' from fun w' h=>newNil (codeL_no hok) h);clear hok hcb hk
  go_enter Tryz.func74, Tryz.ntmps74
  go_wp2_with fail
  generalize w.alloc (.cells #[.slice v.gA k.globals.length v.gc, .slice v.lA k.locks.length v.lc, .slice v.pA k.procs.length v.pc, .slice v.eA k.entry.length v.ec, .slice v.iA k.ins.length v.ic] 28) = W at hbx ⊢;refine (HW.out _ (hkf.below hbx.1)).mono ?_;rintro e w1 ⟨rfl,hb1⟩;go_wp2_with fail
  go_ret
  exact HZ.out _ (below_trans' hbx.1 hb1)
 ·
  have HR:=Lib.hid (right_of hok);have HW:=Lib.hid (fun W (h : CodeAt W w.heap.size v k)=>worldOf_yes v k W h hcb (by omega) hok);have HY:=Lib.hid (codeL_yes (F:=quietL k) hok);have HCB:=Lib.hid hcb;have hlen:=codeT_len k;rw [codeT_yes hok] at hlen;have hgl:=(right_of hok).globals;clear hok hcb hk
  go_enter Tryz.func74, Tryz.ntmps74
  go_wp2_with fail
  generalize w.alloc (.cells #[.slice v.gA k.globals.length v.gc, .slice v.lA k.locks.length v.lc, .slice v.pA k.procs.length v.pc, .slice v.eA k.entry.length v.ec, .slice v.iA k.ins.length v.ic] 28) = W at hbx ⊢;refine (HW.out _ (hkf.below hbx.1)).mono ?_;rintro e w2 ⟨g,rfl,hgl2,hW2,hb1⟩;have hbx2:=hbx.to hb1;clear hbx hb1;have HC:=Lib.hid (touches_any g v k w2 HR.out hW2 HCB.out hL);go_wp2_with fail
  refine HC.out.mono ?_;rintro e w3 ⟨A3,c3',rfl,ho3,hb3⟩;have hbx3:=hbx2.to hb3;have HRD:=Lib.hid (own_rd ho3);have HG:=Lib.hid (fun t (ht : t ∈ touchesN k)=>Nat.lt_of_lt_of_le (touchesN_g ht) hgl);have HQ:=Lib.hid (show ∀ q,(orW (touchesN k)).testBit q = true ↔ wrL (q : Int) (touchesN k) ≠ [] from fun q=>orW_bit q _ _ (Nat.le_refl _));have HQL:=Lib.hid (show quietL k = listN k.globals.length (fun g=>wrL (g : Int) (touchesN k) = []) from rfl);clear hbx2 hb3 HC hW2 HW ho3;generalize touchesN k = ts at *;go_wp2_with fail
  go_loopg [5,20] ts.length (fun l out i wr=>∃ j : Nat,j ≤ ts.length ∧ l = ts.length - j ∧ i = .int .i64 j ∧ out = .int .i64 ((orW (ts.take j) : Nat) : Int) ∧ Below w3.heap.size w3 wr)
  case atStart=>exact ⟨0,by omega,by omega,rfl,rfl,Below.refl _ _⟩
  case round =>
   obtain ⟨j,hj,rfl,rfl,rfl,hb⟩:=hrel;have hsz:=hb.size;have hlo:=orW_lt _ (ts.take j) (Nat.le_refl _) (fun t ht=>HG.out t (List.mem_of_mem_take ht));by_cases hlt : j < ts.length
   ·
    obtain ⟨ad,e2,_,l0,l1,l2,l3⟩:=(HRD.out.below hb).touch hlt;subst e2;have hg6:=HG.out ts[j] (List.getElem_mem hlt);have z1 : (0 : Int) ≤ (j : Int):=by omega
    have z2 : (j : Int) < (ts.length : Int):=by omega
    have HOT:=Lib.hid (orW_take hlt);by_cases hwr : ts[j].w = true
    ·
     have HS:=Lib.hid (HOT.out.trans (if_pos hwr));rw [hwr] at l2;clear hwr HOT;have e1 : bits .or .i64 ((orW (ts.take j) : Nat) : Int) (wrap64 ((2 : Int) ^ ts[j].g)) = ((orW (ts.take j) ||| 2 ^ ts[j].g : Nat) : Int):=by
      rw [shl_one _ (by omega),i64_or_nat _ _ (by omega) (two_pow_lt _ (by omega))]
     have b1:=box_cell wr #[.int .i64 ts[j].a,.int .i64 ts[j].g,.bool true,.int .i64 ts[j].h] 66 1 rfl;have b2:=box_cell wr #[.int .i64 ts[j].a,.int .i64 ts[j].g,.bool true,.int .i64 ts[j].h] 66 2 rfl;have hbb:=below_alloc hb (Nat.le_refl _) (.cells #[.int .i64 ts[j].a,.int .i64 ts[j].g,.bool true,.int .i64 ts[j].h] 66);go_wp2_with fail
     go_roundg (ts.length - (j + 1))
     case measure=>omega
     case rel=>exact ⟨j + 1,by omega,rfl,by go_num,by rw [HS.out,← e1],hbb⟩
    ·
     have hwr : ts[j].w = false:=by simpa using hwr
     have HS:=Lib.hid (HOT.out.trans (if_neg (by rw [hwr];simp)));rw [hwr] at l2;clear hwr HOT;have b1:=box_cell wr #[.int .i64 ts[j].a,.int .i64 ts[j].g,.bool false,.int .i64 ts[j].h] 66 1 rfl;have b2:=box_cell wr #[.int .i64 ts[j].a,.int .i64 ts[j].g,.bool false,.int .i64 ts[j].h] 66 2 rfl;have hbb:=below_alloc hb (Nat.le_refl _) (.cells #[.int .i64 ts[j].a,.int .i64 ts[j].g,.bool false,.int .i64 ts[j].h] 66);go_wp2_with fail
     go_roundg (ts.length - (j + 1))
     case measure=>omega
     case rel=>exact ⟨j + 1,by omega,rfl,by go_num,by rw [HS.out],hbb⟩
   ·
    obtain rfl : j = ts.length:=by omega
    rw [List.take_length] at hlo ⊢;obtain ⟨W0,rfl⟩ : ∃ W0,W0 = wr:=⟨_,rfl⟩
    have hbx4:=hbx3.to hb;obtain ⟨q1,q2,c0,c1,c2,c3,c4⟩:=id hbx4;have HGB:=Lib.hid (fun (q : Nat) (W : World) (hq : q < 64)=>hasBit_any (orW ts) q W (by omega) hq);go_wp2_with fail
    clear c0 c1 c2 c3 c4 q1 q2;go_loopg [8,36] k.globals.length (fun l out i wr=>∃ q : Nat,q ≤ k.globals.length ∧ l = k.globals.length - q ∧ i = .int .i64 q ∧ wr.ownsRow W0.heap.size 3 1 out (listN q (fun g=>wrL (g : Int) ts = [])).length (nv (listN q (fun g=>wrL (g : Int) ts = []))) ∧ Below W0.heap.size W0 wr)
    case atStart=>exact ⟨0,by omega,by omega,rfl,World.ownsRow_nil _ _ _ _,Below.refl _ _⟩
    case round =>
     obtain ⟨q,hq,rfl,rfl,ho,hb5⟩:=hrel;obtain ⟨co,Ao,rfl⟩ : ∃ co Ao,_:=by
      obtain ⟨Ao,co,e⟩:=own_form ho;exact ⟨co,Ao,e⟩
     have hsz5:=hb5.size;have hll:=listN_len q (fun g=>wrL (g : Int) ts = []);by_cases hqt : q < k.globals.length
     ·
      have hHB:=HGB.out q wr (by omega);have z1 : (0 : Int) ≤ (q : Int):=by omega
      have z2 : (q : Int) < (k.globals.length : Int):=by omega
      by_cases hm : wrL (q : Int) ts = []
      ·
       have hbit : (orW ts).testBit q = false:=by
        cases h : (orW ts).testBit q
        · rfl
        · exact absurd hm ((HQ.out q).1 h)
       rw [hbit] at hHB;have HS:=Lib.hid (listN_step (P:=fun g=>wrL (g : Int) ts = []) hm);have HHB:=Lib.hid hHB;clear hm hbit hHB;go_wp2_with fail
       refine HHB.out.mono ?_;rintro e w6 ⟨rfl,rfl⟩;go_wp2_with (at_builtin;refine append_int2 (xs:=(listN q (fun g=>wrL (g : Int) ts = [])).map natI) (z:=natI q) rfl _ _ rfl ho rfl rfl rfl (by omega) (by omega) ?_;intro A7 c7 w7 ho7 hg7 hv7)
       go_roundg (k.globals.length - (q + 1))
       case measure=>omega
       case rel=>exact ⟨q + 1,by omega,rfl,by go_num,by rw [HS.out,← nv_snoc2,List.length_append];exact ho7,below_append hb5 ho hg7 hsz5 (Nat.le_refl _)⟩
      ·
       have hbit : (orW ts).testBit q = true:=(HQ.out q).2 hm;rw [hbit] at hHB;have HS:=Lib.hid (listN_skip (P:=fun g=>wrL (g : Int) ts = []) hm);have HHB:=Lib.hid hHB;clear hm hbit hHB;go_wp2_with fail
       refine HHB.out.mono ?_;rintro e w6 ⟨rfl,rfl⟩;go_wp2_with fail
       go_roundg (k.globals.length - (q + 1))
       case measure=>omega
       case rel=>exact ⟨q + 1,by omega,rfl,by go_num,by rw [HS.out];exact ho,hb5⟩
     ·
      obtain rfl : q = k.globals.length:=by omega
      have HFI:=Lib.hid (show NewNats w (codeL k (quietL k)) (.returned (.slice Ao (listN k.globals.length (fun g=>wrL (g : Int) ts = [])).length co)) wr from by
       rw [HY.out,HQL.out];exact ⟨Ao,co,rfl,own_mono ho (Nat.le_of_lt hbx4.2.1),below_trans' hbx4.1 hb5⟩)
      go_wp2_with fail
      go_ret
      exact HFI.out
end Go.Proofs.YtkgoajnnkimkaaaGreat
namespace Go.Proofs.YtkgoajnnkimkaaaGreat
open Go.RowKit
structure TIn (k : Cd) (t : Tt) : Prop where
 a : t.a < k.ins.length
 g : t.g < k.globals.length
 yes : t.w = true → opN k t.a = 1 ∧ argN k t.a = t.g
 no : t.w = false → readsB k t.a t.g = true
theorem touch_in {k : Cd} {t : Tt} (ht : t ∈ touchesN k) : TIn k t:=by
 have hg:=touchesN_g ht;unfold touchesN toL at ht;obtain ⟨a,ha,hm⟩:=List.mem_flatMap.1 ht;have hal:=(mem_listN.1 ha).1;unfold touchL at hm;split at hm
 ·
  unfold touchP at hm;obtain ⟨g,_,hm⟩:=List.mem_flatMap.1 hm;unfold touchF at hm;rw [List.mem_append] at hm;rcases hm with hm | hm
  ·
   split at hm
   · rename_i hr;rw [List.mem_singleton] at hm;subst hm;exact ⟨hal,hg,fun h=>by simp at h,fun _=>hr⟩
   · simp at hm
  ·
   split at hm
   · rename_i hr;rw [List.mem_singleton] at hm;subst hm;exact ⟨hal,hg,fun _=>hr,fun h=>by simp at h⟩
   · simp at hm
 · simp at hm
theorem writer_in {ts : List Tt} {t : Tt} (ht : t ∈ ts) (hw : t.w = true) : t.a ∈ wrL (t.g : Int) ts:=List.mem_filterMap.2 ⟨t,ht,by simp [hw]⟩
theorem quiet_no {k : Cd} {t : Tt} (ht : t ∈ touchesN k) (hw : t.w = true) : ¬ t.g ∈ quietL k:=fun h=>by
 have:=(mem_listN.1 h).2;have hm:=writer_in ht hw;rw [this] at hm;simp at hm
theorem quiet_eq {k : Cd} {g : Nat} (hg : g < k.globals.length) : decide (g ∈ quietL k) = decide ((wrL (g : Int) (touchesN k)).length = 0):=by
 unfold quietL;rw [Bool.eq_iff_iff,decide_eq_true_eq,decide_eq_true_eq,mem_listN,List.length_eq_zero_iff];exact ⟨fun h=>h.2,fun h=>⟨hg,h⟩⟩
theorem read_in {k : Cd} {a g : Nat} (ha : a < k.ins.length) (hg : g < k.globals.length) (h : readsB k a g = true) : k.globals[g] ∈ readsOf k.ins[a].term:=by
 unfold readsB readsAt at h;rw [List.getElem?_eq_getElem ha,List.getElem?_eq_getElem hg] at h;simpa using h
theorem touches_len {k : Cd} (hok : codeOkI k = true) : (touchesN k).length ≤ 18000:=by
 have:=codeT_len k
 rwa [codeT_yes hok] at this
end Go.Proofs.YtkgoajnnkimkaaaGreat
namespace Go.Proofs.YtkgoajnnkimkaaaGreat
open Go.ChangeShapes Go.WideShapes Go.ChangeAt Go.RowKit
theorem cells_byte : Tryz.prog.cellsOf 5 = 1:=by kernel_rfl
theorem u8_of_wf {n : Int} (h : (Lit.int .u8 n).wf = true) : 0 ≤ n ∧ n ≤ 255:=by
 simp [Lit.wf,IntKind.min,IntKind.max,IntKind.bits,IntKind.signed] at h;omega
section
variable {H : Type} {enc : TypeId × Value → H} {W : World} {sp : Nat → Bool} {held : Bool}
theorem rd_bytes {fuel : Nat} {cs : List Value} {x : DataW H × List MemPlace} (h : DataW.trod enc Tryz.prog W 0 sp held fuel 22 cs = some x) :
  ∃ (A : Option Addr) (c : Nat) (b : List UInt8),cs = [.slice A b.length c] ∧ Rd W W.heap.size A (bytesV b) ∧ b.length ≤ 9223372036854775807:=by
 rcases open_ints Tryz.underlying22 Tryz.underlying5 cells_byte h with ⟨rfl,rfl⟩ | ⟨a,len,cap,zs,rfl,_,hlc,hcm,hzl,rfl,hcell,hwf⟩
 · exact ⟨none,0,[],rfl,Rd.nil,by simp⟩
 ·
  have hle : len ≤ zs.length:=by rw [hzl];split <;> omega
  unfold maxLen at hcm;refine ⟨some a,cap,(zs.take len).map fun n=>UInt8.ofNat n.toNat,by simp [Nat.min_eq_left hle],?_,by simp;omega⟩;intro j u hu;simp only [bytesV,List.getElem?_map,List.getElem?_take] at hu;by_cases hj : j < len
  ·
   rw [if_pos hj,List.getElem?_eq_getElem (by omega)] at hu;simp only [Option.map_some,Option.some.injEq] at hu;subst hu;have hc:=hcell j (by omega);rw [List.getD_eq_getElem?_getD,List.getElem?_eq_getElem (by omega)] at hc;have hb:=World.block_lt_of_cell? W _ hc;rw [block_of_add] at hb;have hw:=u8_of_wf (hwf zs[j] (List.getElem_mem (by omega)));refine ⟨a,rfl,hb,?_⟩;rw [hc];simp only [Option.getD_some];congr 2
   rw [UInt8.toNat_ofNat'];omega
  · rw [if_neg hj] at hu;simp at hu
end
theorem big_any {b : List UInt8} (A : Option Addr) (c : Nat) (w : World) (hn : b.length ≤ 9223372036854775807) :
  Calls Tryz.prog 11 #[.slice A b.length c] w fun e w'=>e = .returned (.bool (decide (1048576 < b.length))) ∧ w' = w:=by
 go_enter Tryz.func11, Tryz.ntmps11
 go_wp2_with fail
 go_ret
 exact ⟨ret_bool (decide_eq_decide.2 (by omega)),rfl⟩
end Go.Proofs.YtkgoajnnkimkaaaGreat
namespace Go.Proofs.YtkgoajnnkimkaaaGreat
open Go.ChangeShapes Go.WideShapes Go.ChangeAt Go.RowKit
theorem hasInt_any {B : Nat} (A : Option Addr) (c : Nat) (xs : List Nat) (n : Nat) (w : World) (h : Rd w B A (nv xs)) (hn : xs.length ≤ 1099511627776) :
  Calls Tryz.prog 27 #[.slice A xs.length c,.int .i64 (n : Int)] w fun e w'=>e = .returned (.bool (decide (n ∈ xs))) ∧ Below w.heap.size w w':=by
 have h0:=h.full;clear h
 go_enter Tryz.func27, Tryz.ntmps27
 go_wp2_with fail
 go_loopg [5] xs.length (fun l i wr=>∃ j : Nat,j ≤ xs.length ∧ l = xs.length - j ∧ i = .int .i64 j ∧ n ∉ xs.take j ∧ Below w.heap.size w wr)
 case atStart=>exact ⟨0,by omega,by omega,rfl,by simp,Below.refl _ _⟩
 case round =>
  obtain ⟨j,hj,rfl,rfl,hno,hb⟩:=hrel;have HNO:=Lib.hid hno;clear hno;by_cases hlt : j < xs.length
  ·
   obtain ⟨ad,rfl,_,hc⟩:=(h0.below hb).nat hlt;by_cases e : xs[j] = n
   ·
    have e1 : ((xs[j] : Int) == (n : Int)) = true:=by simp [e]
    have HE:=Lib.hid e;clear e;go_wp2_with fail
    go_ret
    exact ⟨ret_bool (by have : n ∈ xs := by { rw [← HE.out]; exact List.getElem_mem hlt }
                        simp [this]),hb⟩
   ·
    have e1 : ((xs[j] : Int) == (n : Int)) = false:=by simp;omega
    have HE:=Lib.hid e;clear e;go_wp2_with fail
    go_roundg (xs.length - (j + 1))
    case measure=>omega
    case rel =>
     refine ⟨j + 1,by omega,rfl,by go_num,?_,hb⟩;rw [List.take_succ_eq_append_getElem hlt];simp only [List.mem_append,List.mem_singleton,not_or];exact ⟨HNO.out,fun h=>HE.out h.symm⟩
  ·
   have hx : ¬ n ∈ xs:=by have:=HNO.out;rwa [List.take_of_length_le (by omega)] at this
   have HX:=Lib.hid hx;obtain rfl : j = xs.length:=by omega
   go_wp2_with fail
   go_ret
   exact ⟨ret_bool (by simp [HX.out]),hb⟩
theorem hasText_any {B : Nat} (A : Option Addr) (c : Nat) (xs : List ByteArray) (n : ByteArray) (w : World) (h : Rd w B A (xs.map sv)) (hn : xs.length ≤ 1099511627776) :
  Calls Tryz.prog 78 #[.slice A xs.length c,.string n] w fun e w'=>e = .returned (.bool (decide (n ∈ xs))) ∧ Below w.heap.size w w':=by
 have h0:=h.full;clear h
 go_enter Tryz.func78, Tryz.ntmps78
 go_wp2_with fail
 go_loopg [5] xs.length (fun l i wr=>∃ j : Nat,j ≤ xs.length ∧ l = xs.length - j ∧ i = .int .i64 j ∧ n ∉ xs.take j ∧ Below w.heap.size w wr)
 case atStart=>exact ⟨0,by omega,by omega,rfl,by simp,Below.refl _ _⟩
 case round =>
  obtain ⟨j,hj,rfl,rfl,hno,hb⟩:=hrel;have HNO:=Lib.hid hno;clear hno;by_cases hlt : j < xs.length
  ·
   obtain ⟨ad,rfl,_,hc⟩:=(h0.below hb).str hlt;by_cases e : xs[j] = n
   ·
    have e1 : (xs[j].toList == n.toList) = true:=by rw [e];simp
    have HE:=Lib.hid e;clear e;go_wp2_with fail
    go_ret
    exact ⟨ret_bool (by have : n ∈ xs := by { rw [← HE.out]; exact List.getElem_mem hlt }
                        simp [this]),hb⟩
   ·
    have e1 : (xs[j].toList == n.toList) = false:=by rw [str_beq,decide_eq_false e]
    have HE:=Lib.hid e;clear e;go_wp2_with fail
    go_roundg (xs.length - (j + 1))
    case measure=>omega
    case rel =>
     refine ⟨j + 1,by omega,rfl,by go_num,?_,hb⟩;rw [List.take_succ_eq_append_getElem hlt];simp only [List.mem_append,List.mem_singleton,not_or];exact ⟨HNO.out,fun h=>HE.out h.symm⟩
  ·
   have hx : ¬ n ∈ xs:=by have:=HNO.out;rwa [List.take_of_length_le (by omega)] at this
   have HX:=Lib.hid hx;obtain rfl : j = xs.length:=by omega
   go_wp2_with fail
   go_ret
   exact ⟨ret_bool (by simp [HX.out]),hb⟩
theorem below_drew0 (w : World) : Below w.heap.size w w.drew:=(Below.refl _ _).drew
structure LB (w : World) (k : Cd) (gk gs : Nat) (v u : CV) (W : World) : Prop where
 low : Below w.heap.size w W
 kk : KAt W gk v k
 ks : KAt W gs u k
 ck : CodeAt W W.heap.size v k
 cs : CodeAt W W.heap.size u k
theorem LB.to {w W W' : World} {k : Cd} {gk gs : Nat} {v u : CV} (h : LB w k gk gs v u W) (hb : Below W.heap.size W W') : LB w k gk gs v u W' :=
 ⟨below_trans' h.low hb,h.kk.to hb,h.ks.to hb,(h.ck.below hb).full,(h.cs.below hb).full⟩
theorem LB.drew {w W : World} {k : Cd} {gk gs : Nat} {v u : CV} (h : LB w k gk gs v u W) : LB w k gk gs v u W.drew:=h.to (below_drew0 W)
structure LS (w : World) (k : Cd) (gk gs : Nat) (v u : CV) (rows : List (Option Addr × List Nat)) (W : World) : Prop where
 lb : LB w k gk gs v u W
 rd : ∀ p ∈ rows,Rd W W.heap.size p.1 (nv p.2)
section
variable {w W W' : World} {k : Cd} {gk gs : Nat} {v u : CV} {rows : List (Option Addr × List Nat)}
theorem LS.to (h : LS w k gk gs v u rows W) (hb : Below W.heap.size W W') : LS w k gk gs v u rows W':=⟨h.lb.to hb,fun p hp=>((h.rd p hp).below hb).full⟩
theorem LS.drew (h : LS w k gk gs v u rows W) : LS w k gk gs v u rows W.drew:=h.to (below_drew0 W)
theorem LS.add {A : Option Addr} {xs : List Nat} (h : LS w k gk gs v u rows W) (hr : Rd W W.heap.size A (nv xs)) : LS w k gk gs v u ((A,xs) :: rows) W :=
 ⟨h.lb,fun p hp=>by rcases List.mem_cons.1 hp with rfl | hp;exact hr;exact h.rd p hp⟩
theorem LB.ls (h : LB w k gk gs v u W) : LS w k gk gs v u [] W:=⟨h,fun p hp=>by simp at hp⟩
theorem LS.at_ {ad : Addr} {xs : List Nat} (h : LS w k gk gs v u rows W) (hm : (some ad,xs) ∈ rows) {j : Nat} (hj : j < xs.length) : W.cell? (ad.add j) = some (.int .i64 (xs[j] : Int)):=by
 obtain ⟨ad',e,_,hc⟩:=(h.rd _ hm).nat hj;injection e with e;rw [e];exact hc
end
theorem hasInt_yes {B : Nat} (A : Option Addr) (c : Nat) (xs : List Nat) (n : Nat) (w : World) (h : Rd w B A (nv xs)) (hn : xs.length ≤ 1099511627776) (hm : n ∈ xs) :
  Calls Tryz.prog 27 #[.slice A xs.length c,.int .i64 (n : Int)] w fun e w'=>e = .returned (.bool true) ∧ Below w.heap.size w w':=by
 have:=hasInt_any A c xs n w h hn
 rwa [decide_eq_true hm] at this
end Go.Proofs.YtkgoajnnkimkaaaGreat
namespace Go.Proofs.YtkgoajnnkimkaaaGreat
open Go.ChangeShapes Go.WideShapes Go.ChangeAt Go.RowKit
theorem sameTouches_same {B B' : Nat} (A A' : Option Addr) (c d : Nat) (es : List Tt) (w : World) (ha : Rd w B A (tCells es)) (hb : Rd w B' A' (tCells es)) (hx : es.length ≤ 1048576) :
  Calls Tryz.prog 76 #[.slice A es.length c,.slice A' es.length d] w fun e w'=>e = .returned (.bool true) ∧ Below w.heap.size w w':=by
 have hne : ((es.length : Int) != es.length) = false:=by simp
 go_enter Tryz.func76, Tryz.ntmps76
 go_wp2
 go_loopw [5] (fun i wr=>∃ k : Nat,k ≤ es.length ∧ i = .int .i64 k ∧ ∃ n,wr = w.drewN n) (fun i _=>es.length - (intOf i).toNat)
 case atStart=>exact ⟨0,Nat.zero_le _,rfl,0,rfl⟩
 case round =>
  obtain ⟨k,hk,rfl,n,rfl⟩:=hrel;by_cases hlt : k < es.length
  ·
   obtain ⟨ad,rfl,_,k0,k1,k2,k3⟩:=ha.touch hlt;obtain ⟨bd,rfl,_,l0,l1,l2,l3⟩:=hb.touch hlt;have z1 : (0 : Int) ≤ (k : Int):=by omega
   have z2 : (k : Int) < (es.length : Int):=by omega
   have q1 : ((es[k].a : Int) == (es[k].a : Int)) = true:=by simp
   have q2 : ((es[k].g : Int) == (es[k].g : Int)) = true:=by simp
   have q3 : (es[k].w == es[k].w) = true:=by simp
   have q4 : ((es[k].h : Int) == (es[k].h : Int)) = true:=by simp
   go_wp2
   go_quiet (fail)
   go_wp2
   go_roundw
   case rel=>exact ⟨k + 1,by omega,by go_num,_,rfl⟩
   case measure=>simp [intOf];omega
  ·
   go_wp2
   go_ret
   exact ⟨rfl,below_drewN (Below.refl _ _) _⟩
structure LT (w : World) (k : Cd) (gk gs : Nat) (v u : CV) (A : Option Addr) (ts : List Tt) (rows : List (Option Addr × List Nat)) (W : World) : Prop where
 ls : LS w k gk gs v u rows W
 t : Rd W W.heap.size A (tCells ts)
structure LX (w : World) (k : Cd) (gk gs : Nat) (v u : CV) (A : Option Addr) (ts : List Tt) (rows : List (Option Addr × List Nat)) (V W : World) : Prop where
 lt : LT w k gk gs v u A ts rows W
 low : Below V.heap.size V W
section
variable {w V W W' : World} {k : Cd} {gk gs : Nat} {v u : CV} {A : Option Addr} {ts : List Tt} {rows : List (Option Addr × List Nat)}
theorem LT.to (h : LT w k gk gs v u A ts rows W) (hb : Below W.heap.size W W') : LT w k gk gs v u A ts rows W':=⟨h.ls.to hb,(h.t.below hb).full⟩
theorem LT.drew (h : LT w k gk gs v u A ts rows W) : LT w k gk gs v u A ts rows W.drew:=h.to (below_drew0 W)
theorem LT.add {R : Option Addr} {xs : List Nat} (h : LT w k gk gs v u A ts rows W) (hr : Rd W W.heap.size R (nv xs)) : LT w k gk gs v u A ts ((R,xs) :: rows) W:=⟨h.ls.add hr,h.t⟩
theorem LT.at_ (h : LT w k gk gs v u A ts rows W) : LX w k gk gs v u A ts rows W W:=⟨h,Below.refl _ _⟩
theorem LX.to (h : LX w k gk gs v u A ts rows V W) (hb : Below W.heap.size W W') : LX w k gk gs v u A ts rows V W':=⟨h.lt.to hb,below_trans' h.low hb⟩
theorem LX.drew (h : LX w k gk gs v u A ts rows V W) : LX w k gk gs v u A ts rows V W.drew:=h.to (below_drew0 W)
end
end Go.Proofs.YtkgoajnnkimkaaaGreat
namespace Go.Proofs.YtkgoajnnkimkaaaGreat
open Go.RowKit
theorem effN_len (k : Cd) : (effN k).length = k.procs.length:=effL_len k _
theorem effN_get {k : Cd} {p : Nat} (h : p < (effN k).length) : (effN k)[p] = (((keepN k p : Nat) : Int),((gt (genN k) p : Nat) : Int)):=effL_get h
end Go.Proofs.YtkgoajnnkimkaaaGreat
