/- Sets of locks are what is in them, what is in both, in either, and in one without the other: the law FnSets returns true. No condition beyond the given statement's own. -/
import Derived.Test.YtkgoajnnkimkaaaH26
import Derived.Test.YtkgoajnnkimkaaaP8
import Derived.Test.YtkgoajnnkimkaaaP3
import Derived.Test.YtkgoajnnkimkaaaW1
set_option linter.unusedSimpArgs false
set_option linter.unusedVariables false
set_option maxRecDepth 100000
set_option maxHeartbeats 16000000
namespace Go.Proofs.Ytkgoajnnkimkaaa.fnSets
open Go.ChangeShapes Go.WideShapes Go.ChangeAt Go.RowKit
theorem walk (b : List UInt8) (A : Option Addr) (c : Nat) (w : World) (h : Rd w w.heap.size A (bytesV b)) (hn : b.length ≤ 9223372036854775807) :
  Calls Try.prog 4 #[.slice A b.length c] w fun e w'=>e = .returned (.bool true) ∧ Below w.heap.size w w':=by
 by_cases hbig : 1048576 < b.length
 ·
  have HB:=Lib.hid (show Calls Try.prog 14 #[.slice A b.length c] w fun e w'=>e = .returned (.bool true) ∧ w' = w from by
   have:=big_any A c w hn
   rwa [decide_eq_true hbig] at this)
  clear hbig hn h
  go_enter Try.func4, Try.ntmps4
  go_wp2_with fail
  refine HB.out.mono ?_;rintro e w' ⟨rfl,hw⟩;obtain rfl : w = w':=hw.symm;go_wp2_with fail
  go_ret
  exact ⟨rfl,Below.refl _ _⟩
 have HB:=Lib.hid (show Calls Try.prog 14 #[.slice A b.length c] w fun e w'=>e = .returned (.bool false) ∧ w' = w from by
  have:=big_any A c w hn
  rwa [decide_eq_false hbig] at this)
 have hn' : b.length ≤ 1048576:=by omega
 have HD:=Lib.hid (fun V (hV : Below w.heap.size w V)=>drawCode_any b A c V (h.below hV).full hn');have HDP:=Lib.hid (fun V (hV : Below w.heap.size w V)=>(show Calls Try.prog 15 #[.slice A b.length c] V (NewNats V (placesF b)) from by
  have:=drawPlaces_any b A c V (h.below hV).full hn';have e : ((placesF b).map fun (n : Nat)=>iv (n : Int)) = nv (placesF b):=by simp [nv,natI]
  unfold NewNats;rw [placesF_len,← e];exact this))
 have hpl:=placesF_len b;generalize hpf : placesF b = pf at HDP hpl;have hp0 : 0 < pf.length:=by omega
 have hp1 : 1 < pf.length:=by omega
 have HN:=Lib.hid (fun v V (hV : CodeAt V V.heap.size v (codeD (newD b)))=>namesOf_i v (codeD (newD b)) 63 V hV (codeD_b _) (by omega));have HNL:=Lib.hid (names_all (codeD_ok (newD b)));clear hpf hpl hbig hn hn' h;generalize codeD (newD b) = k at HD HN HNL
 go_enter Try.func4, Try.ntmps4
 go_wp2_with fail
 refine HB.out.mono ?_;rintro e w' ⟨rfl,hw⟩;obtain rfl : w = w':=hw.symm;go_wp2_with fail
 refine (HDP.out _ (Below.refl _ _)).mono ?_;rintro e w3 ⟨A3,c3,rfl,ho3,hb3⟩;obtain ⟨ad3,rfl,_,n0⟩:=(own_rd ho3).nat (j:=0) hp0;obtain ⟨ad3',e3,_,n1⟩:=(own_rd ho3).nat (j:=1) hp1;cases e3
 rw [addr_0] at n0;rw [show ad3.add 1 = ⟨ad3.block,ad3.off + 1,none⟩ from by have:=add_pos_eq ad3 0 1 (by omega);rwa [addr_0] at this] at n1;have zl : (1 : Int) < (pf.length : Int):=by omega
 have zl0 : (0 : Int) < (pf.length : Int):=by omega
 clear ho3 HDP;go_wp2_with fail
 have eq : ((pf[0] : Nat) : Int).tmod 64 = ((pf[0] % 64 : Nat) : Int):=(Int.ofNat_tmod _ 64).symm;have eq2 : ((pf[0] : Nat) : Int) % (64 : Int) = ((pf[0] % 64 : Nat) : Int):=by omega
 have er : ((pf[1] : Nat) : Int).tmod 64 = ((pf[1] % 64 : Nat) : Int):=(Int.ofNat_tmod _ 64).symm;have er2 : ((pf[1] : Nat) : Int) % (64 : Int) = ((pf[1] % 64 : Nat) : Int):=by omega
 have hq:=Nat.mod_lt pf[0] (show 0 < 64 by decide);have hr:=Nat.mod_lt pf[1] (show 0 < 64 by decide);simp only [eq,eq2,er,er2];clear eq eq2 er er2 n0 n1 zl zl0;generalize pf[0] % 64 = q at hq ⊢;generalize pf[1] % 64 = r at hr ⊢;have HQ:=Lib.hid hq;have HR:=Lib.hid hr;clear hq hr;go_loopg [6,7,8] 8 (fun l i x y wr=>∃ j : Nat,j ≤ 8 ∧ l = 8 - j ∧ i = .int .i64 ((j : Int) - 1) ∧ Below w.heap.size w wr)
 case atStart=>exact ⟨0,by omega,by omega,rfl,hb3⟩
 case round =>
  clear hb3;obtain ⟨j,hj,rfl,rfl,hb⟩:=hrel;by_cases hlt : j < 8
  ·
   have z1 : ((j : Int) - 1) ≤ 6:=by omega
   have HB1:=Lib.hid (inSet_both HQ.out HR.out ((j : Int) - 1));have HB2:=Lib.hid (inSet_either HQ.out HR.out ((j : Int) - 1));have HB3:=Lib.hid (inSet_without HQ.out HR.out ((j : Int) - 1));have HX:=Lib.hid (fun W=>inSet_i (q : Int) ((j : Int) - 1) W);have HY:=Lib.hid (fun W=>inSet_i (r : Int) ((j : Int) - 1) W);generalize inSetB (q : Int) ((j : Int) - 1) = x at HB1 HB2 HB3 HX;generalize inSetB (r : Int) ((j : Int) - 1) = y at HB1 HB2 HB3 HY;have HI:=Lib.hid (fun s W=>inSet_i s ((j : Int) - 1) W);have hj1 : ((j + 1 : Nat) : Int) - 1 = (j : Int) - 1 + 1:=by omega
   have HJ:=Lib.hid hj1;clear hj1;have hjf : -1 ≤ (j : Int) - 1:=by omega
   generalize (j : Int) - 1 = i at *;cases x <;> cases y
   all_goals
    go_wp2_with fail
    refine (HX.out _).mono ?_;rintro e w4 ⟨rfl,rfl⟩;go_wp2_with fail
    refine (HY.out _).mono ?_;rintro e w4 ⟨rfl,rfl⟩;go_wp2_with fail
    refine (both_i (q : Int) (r : Int) _).mono ?_;rintro e w4 ⟨rfl,rfl⟩;go_wp2_with fail
    refine (HI.out _ _).mono ?_;rintro e w4 ⟨rfl,rfl⟩;rw [HB1.out];go_wp2_with fail
    refine (either_i (q : Int) (r : Int) _).mono ?_;rintro e w4 ⟨rfl,rfl⟩;go_wp2_with fail
    refine (HI.out _ _).mono ?_;rintro e w4 ⟨rfl,rfl⟩;rw [HB2.out];go_wp2_with fail
    refine (without_i (q : Int) (r : Int) _).mono ?_;rintro e w4 ⟨rfl,rfl⟩;go_wp2_with fail
    refine (HI.out _ _).mono ?_;rintro e w4 ⟨rfl,rfl⟩;rw [HB3.out];go_wp2_with fail
    go_roundg (8 - (j + 1))
    case measure=>omega
    case rel=>exact ⟨j + 1,by omega,rfl,by rw [HJ.out],hb⟩
  ·
   obtain rfl : j = 8:=by omega
   have hll:=listOf_len (q : Int);have HS:=Lib.hid (setOf_list HQ.out);have HW1:=Lib.hid (within_and HQ.out HR.out);have HW2:=Lib.hid (within_both HQ.out HR.out);have HW3:=Lib.hid (within_either HQ.out HR.out);have HLO:=Lib.hid (fun W=>listOf_i (q : Int) W);generalize listOf (q : Int) = ql at HS HLO hll;have e1 : ((q : Int) == (q : Int)) = true:=by simp
   have e6 : ((k.locks.length : Int) == (k.locks.length : Int)) = true:=by simp
   go_wp2_with fail
   refine (HLO.out _).mono ?_;rintro e w4 ⟨A4,c4,rfl,ho4,hb4⟩;go_wp2_with fail
   refine (setOf_i A4 c4 ql _ (own_rd ho4) (by omega)).mono ?_;rintro e w5 ⟨rfl,rfl⟩;rw [HS.out];have hb4:=below_trans' hb hb4;clear ho4 hb hll;go_wp2_with fail
   refine (within_i (q : Int) (r : Int) _).mono ?_;rintro e w5 ⟨rfl,rfl⟩;go_wp2_with fail
   refine (both_i (q : Int) (r : Int) _).mono ?_;rintro e w5 ⟨rfl,rfl⟩;have e2:=HW1.out;go_wp2_with fail
   clear e2;refine (both_i (q : Int) (r : Int) _).mono ?_;rintro e w5 ⟨rfl,rfl⟩;go_wp2_with fail
   refine (within_i _ (q : Int) _).mono ?_;rintro e w5 ⟨rfl,rfl⟩;rw [HW2.out];go_wp2_with fail
   refine (either_i (q : Int) (r : Int) _).mono ?_;rintro e w5 ⟨rfl,rfl⟩;go_wp2_with fail
   refine (within_i (q : Int) _ _).mono ?_;rintro e w5 ⟨rfl,rfl⟩;rw [HW3.out];go_wp2_with fail
   refine (both_i 64 (q : Int) _).mono ?_;rintro e w5 ⟨rfl,rfl⟩;rw [both_64];go_wp2_with fail
   refine (HD.out _ hb4).mono ?_;rintro e w6 ⟨v,rfl,hk6,hb6⟩;have hk6:=(hk6.sub (Nat.le_refl _) high_low).full;go_wp2_with fail
   refine (HN.out v _ hk6).mono ?_;rintro e w7 ⟨A7,c7,rfl,ho7,hb7⟩;have hb47:=below_trans' (below_trans' hb4 hb6) hb7;clear hk6 ho7 hb7 hb6 hb4;rw [HNL.out];go_wp2_with fail
   refine (HD.out _ hb47).mono ?_;rintro e w8 ⟨u,rfl,hk8,hb8⟩;have hfd : ∀ W : World,(Instr.field 45 (.agg #[.slice u.gA k.globals.length u.gc, .slice u.lA k.locks.length u.lc, .slice u.pA k.procs.length u.pc, .slice u.eA k.entry.length u.ec, .slice u.iA k.ins.length u.ic]) 1).run Try.prog W = .ok (.slice u.lA k.locks.length u.lc) W:=fun _=>by kernel_rfl
   go_wp2_with fail
   go_ret
   exact ⟨rfl,below_trans' hb47 hb8⟩
theorem lifted (os : Os) (started : os.Started) (H : Type) (enc : TypeId × Value → H) :
  ReturnsInHanded {} Try.checked os 4 .any (Rows.fnSetsSpec.pre6 enc Try.prog Try.f4 Rows.fnSetsRow.domain false) (Rows.fnSetsSpec.post enc Try.prog Try.f4 false true false false):=by
 refine returnsInHanded_of_change (C:=Try.checked) own started (by kernel_rfl) Try.func4
  (ChangeSpec.witness6 (enc:=enc) (C:=Try.checked) false ⟨#[],#[.slice none 0 0],[]⟩ 8 (by kernel_rfl) (by kernel_rfl) (by kernel_rfl) (by kernel_rfl)) ?_
 intro W base args ds gs before hval0 hW hcnd _;have hval : ∀ (j : Nat) t v,Try.f4.params[j]? = some t → args[j]? = some v → Value.okWide Try.prog W .any base t v:=hval0;have hW':=hW;obtain ⟨p,q,hA0,hV,rfl,hfz,hnd⟩:=hW;have hA : DataW.TrodAll enc Try.prog W 0 (fun _=>true) true Try.f4.params.toList args.toList ds p:=hA0;rw [Try.params4] at hA hval;obtain ⟨v0,vs0,d0,ds0,p0,q0,hargs,rfl,rfl,h0,r0⟩:=trodAll_cons hA;obtain ⟨rfl,rfl,rfl⟩:=trodAll_nil r0;obtain rfl : args = #[v0]:=by cases args;simp_all
 have key : ∃ (A : Option Addr) (c : Nat) (zs : List UInt8),v0 = .slice A zs.length c ∧ Rd W W.heap.size A (bytesV zs) ∧ zs.length ≤ 9223372036854775807:=by
  obtain ⟨fuel,h0⟩:=h0;rw [slice_cells Try.underlying33 (hval 0 33 v0 rfl rfl)] at h0;obtain ⟨A,c,zs,e,hr,hn⟩:=rd_bytes h0;injection e with e;exact ⟨A,c,zs,e,hr,hn⟩
 obtain ⟨A,c,zs,rfl,hr,hn⟩:=key;refine (walk zs A c W hr hn).mono fun e W' ⟨he,hb⟩=>?_;subst he;exact ⟨_,rfl,post_of_law laidOut rfl Try.underlying4 rfl (by kernel_rfl) (fun ds hds=>by
  match ds,hds with
  | [d],_=>exact ⟨rfl,rfl,rfl⟩) hW' hb⟩
theorem over : Rows.fnSetsRow.holds Try.pinned (OpenSpec.ofChange Rows.fnSetsSpec) :=
 OpenClaim.holds_of_wide 4 Try.f4 rfl rfl rfl rfl rfl rfl rfl ⟨rfl,rfl,rfl,rfl,rfl⟩ rfl rfl rfl rfl rfl (by kernel_rfl) Try.func4 (by kernel_rfl)
  (of_decide_eq_true (by kernel_rfl)) (by unfold Func.isWrapper;first | (rw [if_pos (by decide +kernel)];kernel_rfl) | (rw [if_neg (by decide +kernel)];exact ⟨rfl,rfl⟩))
  (fun os started H enc _=>lifted os started H enc)
theorem proved : Rows.FnSetsSaid:=over
#print axioms proved
end Go.Proofs.Ytkgoajnnkimkaaa.fnSets
