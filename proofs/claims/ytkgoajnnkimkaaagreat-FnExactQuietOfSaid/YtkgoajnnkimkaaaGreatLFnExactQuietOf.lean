/- The program's QuietOf returns what the reference's QuietOf returns, for all arguments: the law FnExactQuietOf returns true. No condition beyond the given statement's own. -/
import Derived.Test.YtkgoajnnkimkaaaGreatG17
import Derived.Test.YtkgoajnnkimkaaaGreatM2
import Derived.Test.YtkgoajnnkimkaaaGreatB2
import Derived.Test.YtkgoajnnkimkaaaGreatB3
import Derived.Test.YtkgoajnnkimkaaaGreatB4
set_option linter.unusedSimpArgs false
set_option linter.unusedVariables false
namespace Go.Proofs.YtkgoajnnkimkaaaGreat.fnExactQuietOf
open Go.ChangeShapes Go.WideShapes Go.ChangeAt Go.RowKit


set_option maxHeartbeats 4000000 in
theorem walk (v : CV) (k : Cd) (w : World) (hk : CodeAt w w.heap.size v k) (hcb : CdB 9223372036854775807 k) :
    Calls Tryz.prog 9 #[.agg #[.slice v.gA k.globals.length v.gc, .slice v.lA k.locks.length v.lc, .slice v.pA k.procs.length v.pc, .slice v.eA k.entry.length v.ec, .slice v.iA k.ins.length v.ic]] w fun e w' => e = .returned (.bool true) ∧ Below w.heap.size w w' := by
  have HSz := Lib.hid (fun W (h : CodeAt W w.heap.size v k) => szCode_any v k 1048576 W h hcb (by omega))
  have hb0 := lawBox w v k
  clear hcb
  go_enter Tryz.func9, Tryz.ntmps9
  go_wp2_with fail
  generalize w.alloc (.cells #[.slice v.gA k.globals.length v.gc, .slice v.lA k.locks.length v.lc, .slice v.pA k.procs.length v.pc, .slice v.eA k.entry.length v.ec, .slice v.iA k.ins.length v.ic] 55) = W at hb0 ⊢
  refine (HSz.out _ (hk.below hb0.1)).mono ?_
  rintro e w1 ⟨hb1, rfl | ⟨r1, rfl, hr1, hcn, hcb⟩⟩
  · go_wp2_with fail
    go_ret
    exact ⟨rfl, below_trans' hb0.1 hb1⟩
  have hbx1 := hb0.to hb1
  clear hb0 hb1 HSz
  have hn1 : ¬ ((r1 : Int) < 0) := by omega
  have hcnt : k.cnt ≤ 1048576 := by omega
  have HTo := Lib.hid (fun W (h : CodeAt W w.heap.size v k) => toCode_any v k W h hcb)
  have HSP := Lib.hid (fun u B W (h : CodeAt W B u k) => quietOf_s u k W h hcb (by omega))
  have HIM := Lib.hid (fun u B W (h : CodeAt W B u k) => quietOf_i u k W h hcb (by omega))
  have hlen : (codeL k (quietL k)).length ≤ 1048576 := Nat.le_trans (codeL_len (listN_len _ _)) hcb.globals
  generalize codeL k (quietL k) = zs at HSP HIM hlen
  clear hcn
  obtain ⟨q1, q2, c0, c1, c2, c3, c4⟩ := id hbx1
  go_wp2_with fail
  clear q1 q2 c0 c1 c2 c3 c4
  refine (HTo.out _ (hk.below hbx1.1)).mono ?_
  rintro e w3 ⟨u3, rfl, k3, hb3⟩
  have hbx3 := hbx1.to hb3
  have k3 := k3.sub (Nat.le_refl _) high_low
  clear hbx1 hb3
  go_wp2_with fail
  refine (HSP.out u3 _ _ k3).mono ?_
  rintro e w5 ⟨A5, c5, rfl, ho5, hb5⟩
  have hbx5 := hbx3.to hb5
  have r5 := own_rd ho5
  have hw5 : w.heap.size < w5.heap.size := hbx5.2.1
  clear hbx3 k3 hb5 ho5
  obtain ⟨q1, q2, c0, c1, c2, c3, c4⟩ := id hbx5
  go_wp2_with fail
  clear q1 q2 c0 c1 c2 c3 c4
  refine (HTo.out _ (hk.below hbx5.1)).mono ?_
  rintro e w6 ⟨u6, rfl, k6, hb6⟩
  have hs6 := hb6.size
  have bx := codeBox w6 u6 k
  go_wp2_with fail
  generalize w6.alloc (.cells #[.slice u6.gA k.globals.length u6.gc, .slice u6.lA k.locks.length u6.lc, .slice u6.pA k.procs.length u6.pc, .slice u6.eA k.entry.length u6.ec, .slice u6.iA k.ins.length u6.ic] 28) = V at bx ⊢
  have hbV := below_trans' hb6 bx.1
  have hsV := bx.2.1
  have k7 := (k6.sub (Nat.le_refl _) high_low).full.below bx.1
  obtain ⟨q1, q2, c0, c1, c2, c3, c4⟩ := id bx
  refine (HIM.out u6 _ _ k7).mono ?_
  rintro e w9 ⟨A9, c9, rfl, ho9, hb9⟩
  have hb59 := below_trans' hbV hb9
  have hs9 := hb9.size
  have bx9 := bx.to hb9
  clear bx q1 q2 c0 c1 c2 c3 c4
  go_wp2_with fail
  refine (eqNats_same A9 A5 c9 c5 zs _ (own_rd ho9) (r5.below hb59) (by omega)).mono ?_
  rintro e w10 ⟨rfl, hb10⟩
  have ho10 := own_below ho9 hb10
  have hs10 := hb10.size
  have hb510 := below_trans' hb59 hb10
  have bx10 := bx9.to hb10
  have k10' := (k7.full.below hb9).full.below hb10
  have hbx10 := hbx5.to hb510
  clear ho9 hb59 bx9 hb9 k7
  obtain ⟨q1, q2, c0, c1, c2, c3, c4⟩ := id hbx10
  obtain ⟨p1, p2, d0, d1, d2, d3, d4'⟩ := id bx10
  go_wp2_with fail
  go_region_held3 (fun w' => Below w10.heap.size w10 w' ∧ w'.cell? ⟨w.heap.size, 0, none⟩ = some (.slice v.gA k.globals.length v.gc) ∧ w'.cell? ⟨w.heap.size, 1, none⟩ = some (.slice v.lA k.locks.length v.lc) ∧
      w'.cell? ⟨w.heap.size, 2, none⟩ = some (.slice v.pA k.procs.length v.pc) ∧ w'.cell? ⟨w.heap.size, 3, none⟩ = some (.slice v.eA k.entry.length v.ec) ∧ w'.cell? ⟨w.heap.size, 4, none⟩ = some (.slice v.iA k.ins.length v.ic) ∧
      w'.cell? ⟨w6.heap.size, 0, none⟩ = some (.slice u6.gA k.globals.length u6.gc) ∧ w'.cell? ⟨w6.heap.size, 1, none⟩ = some (.slice u6.lA k.locks.length u6.lc) ∧
      w'.cell? ⟨w6.heap.size, 2, none⟩ = some (.slice u6.pA k.procs.length u6.pc) ∧ w'.cell? ⟨w6.heap.size, 3, none⟩ = some (.slice u6.eA k.entry.length u6.ec) ∧ w'.cell? ⟨w6.heap.size, 4, none⟩ = some (.slice u6.iA k.ins.length u6.ic))
    (first | exact ⟨(Below.refl _ _).drew, c0, c1, c2, c3, c4, d0, d1, d2, d3, d4'⟩ | assumption | (go_split_ands; refine ⟨below_trans' (by assumption) hb1, ?_, ?_, ?_, ?_, ?_, ?_, ?_, ?_, ?_, ?_⟩ <;> exact cell_below hb1 (by assumption)))
    (first | (go_at_call 66; go_split_ands; refine (HTo.out _ (hk.below (below_trans' q1 (by assumption)))).mono ?_; rintro e w1 ⟨u10, rfl, k10, hb1⟩) | (go_at_call 69; go_split_ands; refine (eqCode_any _ _ k _ (k10'.full.below (by assumption)) (k10.sub (Nat.le_refl _) high_low) hcb).mono ?_; rintro e W1 ⟨rfl, hb1⟩))
  rename_i hS
  have hbS := hS.1
  clear hS c0 c1 c2 c3 c4 d0 d1 d2 d3 d4' p1 p2 q1 q2
  have hVW1 : V.heap.size ≤ W1.heap.size := by
    have h1 := hs9
    have h2 := hs10
    have h3 := hbS.size
    omega
  have ho11 := own_below ho10 hbS
  have hb511 := below_trans' hb510 hbS
  have bx11 := bx10.to hbS
  have hbV10 : Below w6.heap.size w6 W1 := bx11.1
  have kH : CodeAt (High W1 w5.heap.size) w6.heap.size u6 k := k6.sub (Nat.le_refl _) (high_below (Nat.le_refl _) hbV10)
  clear ho10 hb510 bx10 hbx10 k10' hb10
  obtain ⟨p1, p2, d0, d1, d2, d3, d4'⟩ := id bx11
  go_wp2_with fail
  refine (markCode_any w5.heap.size w6.heap.size u6 k 1 W1 W1 kH (Mk.refl _ _ _) hcb hcnt (by omega) hbV10.size).mono ?_
  rintro e W2 ⟨qm, rfl, hm⟩
  have hszM := hm.size
  clear d0 d1 d2 d3 d4' p1 p2
  have hmB : Below w5.heap.size W1 W2 := hm.low (by have := hb511.size; omega)
  have hb512 := hb511.trans hmB
  have ho12 := hm.own ho11 (by omega)
  clear hm ho11 hb511 bx11 kH hmB
  have hq0 : ¬ ((qm : Int) < 0) := by omega
  go_wp2_with fail
  refine (eqNats_same A9 A5 c9 c5 zs _ (own_rd ho12) (r5.below hb512) (by omega)).mono ?_
  rintro e W3 ⟨rfl, hb13⟩
  have ho13 := own_below ho12 hb13
  have hsz13 := hb13.size
  have hb513 := below_trans' hb512 hb13
  clear ho12 hb512 hb13
  go_wp2_with fail
  refine (markIntS_any A9 c9 zs.length 1 _ _ ho13 (by omega) (by omega)).mono ?_
  rintro e W4 ⟨rfl, ho14, hg14⟩
  generalize hmm : 1 + zs.length = mm
  have hmp : ¬ ((mm : Int) < 0) := by omega
  have hmn : ((mm : Int) != (mm : Int)) = false := by simp
  have HMM := Lib.hid hmm
  clear hmm
  have hVW3 : V.heap.size ≤ W3.heap.size := by
    have h1 := hVW1
    have h2 := hszM
    have h3 := hsz13
    omega
  have hb14 : Below V.heap.size W3 W4 := below_mark ho13 hg14 hVW3
  have hb514 := hb513.trans (hb14.mono (by omega))
  clear ho13 hg14 hb14 hb513
  have hH := heldIntS_b A9 c9 zs.length 1 W4 (own_rd ho14) (by omega) (by omega)
  rw [HMM.out] at hH
  have HH := Lib.hid hH
  clear hH
  go_wp2_with fail
  refine HH.out.mono ?_
  clear HH
  rintro e W5 ⟨rfl, hb15⟩
  have ho15 := own_below ho14 hb15
  have hb515 := below_trans' hb514 hb15
  have hbx15 := hbx5.to hb515
  clear ho14 hb514 hb15
  obtain ⟨q1, q2, c0, c1, c2, c3, c4⟩ := id hbx15
  go_wp2_with fail
  refine (HTo.out _ (hk.below hbx15.1)).mono ?_
  rintro e W6 ⟨u16, rfl, k16, hb16⟩
  clear q1 q2 c0 c1 c2 c3 c4
  have k16 := k16.sub (Nat.le_refl _) high_low
  go_wp2_with fail
  refine (HIM.out u16 _ _ k16).mono ?_
  rintro e W7 ⟨A17, c17, rfl, ho17, hb17⟩
  have hb27 := below_trans' hb16 hb17
  have hb527 := below_trans' hb515 hb27
  have ho27 := own_below ho15 hb27
  clear k16 hb16 hb17 hb27 ho15 hb515 hbx15
  go_wp2_with fail
  refine (eqNats_same A17 A5 c17 c5 zs _ (own_rd ho17) (r5.below hb527) (by omega)).mono ?_
  rintro e W8 ⟨rfl, hb18⟩
  have ho28 := own_below ho27 hb18
  have hb528 := below_trans' hb527 hb18
  clear hb18 ho27 hb527 ho17
  have hH := heldIntS_b A9 c9 zs.length 1 W8 (own_rd ho28) (by omega) (by omega)
  rw [HMM.out] at hH
  have HH := Lib.hid hH
  clear hH
  go_wp2_with fail
  refine HH.out.mono ?_
  rintro e W9 ⟨rfl, hb19⟩
  go_wp2_with fail
  go_ret
  exact ⟨rfl, (hbx5.to (below_trans' hb528 hb19)).1⟩

set_option maxRecDepth 100000 in
theorem lifted (os : Os) (started : os.Started) (H : Type) (enc : TypeId × Value → H) :
    ReturnsInHanded {} Tryz.checked os 9 .any (Rows.fnExactQuietOfSpec.pre6 enc Tryz.prog Tryz.f9 Rows.fnExactQuietOfRow.domain false) (Rows.fnExactQuietOfSpec.post enc Tryz.prog Tryz.f9 false true false false) := by
  refine returnsInHanded_of_change (C := Tryz.checked) own started (by kernel_rfl) Tryz.func9
    (ChangeSpec.witness6 (enc := enc) (C := Tryz.checked) false ⟨#[], #[.agg #[.slice none 0 0, .slice none 0 0, .slice none 0 0, .slice none 0 0, .slice none 0 0]], []⟩ 8 (by kernel_rfl) (by kernel_rfl) (by kernel_rfl) (by kernel_rfl)) ?_
  intro W base args ds gs before hval0 hW hcnd _
  have hval : ∀ (j : Nat) t v, Tryz.f9.params[j]? = some t → args[j]? = some v → Value.okWide Tryz.prog W .any base t v := hval0
  have hW' := hW
  obtain ⟨p, q, hA0, hV, rfl, hfz, hnd⟩ := hW
  have hA : DataW.TrodAll enc Tryz.prog W 0 (fun _ => true) true Tryz.f9.params.toList args.toList ds p := hA0
  rw [Tryz.params9] at hA hval
  obtain ⟨v0, vs0, d0, ds0, p0, q0, hargs, rfl, rfl, h0, r0⟩ := trodAll_cons hA
  obtain ⟨rfl, rfl, rfl⟩ := trodAll_nil r0
  obtain rfl : args = #[v0] := by cases args; simp_all
  clear hA0 hval0
  obtain ⟨u0, k0, rfl, hk0, hcb0⟩ := code_open (hval 0 55 v0 rfl rfl) h0
  refine (walk u0 k0 W hk0 hcb0).mono fun e W' ⟨he, hb⟩ => ?_
  subst he
  exact ⟨_, rfl, post_of_law laidOut rfl Tryz.underlying4 rfl (by kernel_rfl) (fun ds hds => by
    match ds, hds with
    | [_], _ => exact ⟨rfl, rfl, rfl⟩) hW' hb⟩

theorem over : Rows.fnExactQuietOfRow.holds Tryz.pinned (OpenSpec.ofChange Rows.fnExactQuietOfSpec) :=
  OpenClaim.holds_of_wide 9 Tryz.f9 rfl rfl rfl rfl rfl rfl rfl ⟨rfl, rfl, rfl, rfl, rfl⟩ rfl rfl rfl rfl rfl (by kernel_rfl) Tryz.func9 (by kernel_rfl)
    (of_decide_eq_true (by kernel_rfl)) (by unfold Func.isWrapper; first | (rw [if_pos (by decide +kernel)]; kernel_rfl) | (rw [if_neg (by decide +kernel)]; exact ⟨rfl, rfl⟩))
    (fun os started H enc _ => lifted os started H enc)

theorem proved : Rows.FnExactQuietOfSaid := over
#print axioms proved
end Go.Proofs.YtkgoajnnkimkaaaGreat.fnExactQuietOf
