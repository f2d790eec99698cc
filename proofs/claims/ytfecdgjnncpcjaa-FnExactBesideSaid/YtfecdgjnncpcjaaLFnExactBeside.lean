/- The program's Beside returns what the reference's Beside returns, for all arguments: the law FnExactBeside returns true. No condition beyond the given statement's own. -/
import Derived.Test.YtfecdgjnncpcjaaG13
import Derived.Test.YtfecdgjnncpcjaaB2
import Derived.Test.YtfecdgjnncpcjaaB3
import Derived.Test.YtfecdgjnncpcjaaB4
set_option linter.unusedSimpArgs false
set_option linter.unusedVariables false
namespace Go.Proofs.Ytfecdgjnncpcjaa.fnExactBeside
open Go.ChangeShapes Go.WideShapes Go.ChangeAt Go.RowKit


set_option maxHeartbeats 2000000 in
theorem walk (v : CV) (k : Cd) (x0 : Int) (x1 : Int) (w : World) (hk : CodeAt w w.heap.size v k) (hcb : CdB 9223372036854775807 k) :
    Calls Try.prog 5 #[.agg #[.slice v.gA k.globals.length v.gc, .slice v.lA k.locks.length v.lc, .slice v.pA k.procs.length v.pc, .slice v.eA k.entry.length v.ec, .slice v.iA k.ins.length v.ic], .int .i64 x0, .int .i64 x1] w fun e w' => e = .returned (.bool true) ∧ Below w.heap.size w w' := by
  have HSz := Lib.hid (fun W (h : CodeAt W w.heap.size v k) => szCode_any v k 1048576 W h hcb (by omega))
  have hb0 := lawBox w v k
  clear hcb
  go_enter Try.func5, Try.ntmps5
  go_wp2_with fail
  generalize w.alloc (.cells #[.slice v.gA k.globals.length v.gc, .slice v.lA k.locks.length v.lc, .slice v.pA k.procs.length v.pc, .slice v.eA k.entry.length v.ec, .slice v.iA k.ins.length v.ic] 26) = W at hb0 ⊢
  refine (HSz.out _ (hk.below hb0.1)).mono ?_
  rintro e w1 ⟨hb1, rfl | ⟨r1, rfl, hr1, _, hcb⟩⟩
  · go_wp2_with fail
    go_ret
    exact ⟨rfl, below_trans' hb0.1 hb1⟩
  have hbx1 := hb0.to hb1
  clear hb0 hb1 HSz
  have hn1 : ¬ ((r1 : Int) < 0) := by omega
  have HTo := Lib.hid (fun W (h : CodeAt W w.heap.size v k) => toCode_any v k W h hcb)
  have HSP := Lib.hid (fun u B W (h : CodeAt W B u k) => beside_s u k x0 x1 W h hcb (by omega))
  have HIM := Lib.hid (fun u B W (h : CodeAt W B u k) => beside_i u k x0 x1 W h hcb (by omega))
  obtain ⟨q1, q2, c0, c1, c2, c3, c4⟩ := id hbx1
  go_wp2_with fail
  clear q1 q2 c0 c1 c2 c3 c4
  refine (HTo.out _ (hk.below hbx1.1)).mono ?_
  rintro e w3 ⟨u3, rfl, k3, hb3⟩
  have hbx3 := hbx1.to hb3
  have k3 := k3.sub (Nat.le_refl _) high_low
  clear hbx1 hb3
  go_wp2_with fail
  refine (HSP.out u3 _ _ k3).mono ?_
  rintro e w5 ⟨rfl, hb5⟩
  have hbx5 := hbx3.to hb5
  clear hbx3 k3 hb5
  obtain ⟨q1, q2, c0, c1, c2, c3, c4⟩ := id hbx5
  go_wp2_with fail
  clear q1 q2 c0 c1 c2 c3 c4
  refine (HTo.out _ (hk.below hbx5.1)).mono ?_
  rintro e w6 ⟨u6, rfl, k6, hb6⟩
  have hbx6 := hbx5.to hb6
  have k6 := k6.sub (Nat.le_refl _) high_low
  clear hbx5 hb6
  have bx := codeBox w6 u6 k
  go_wp2_with fail
  generalize w6.alloc (.cells #[.slice u6.gA k.globals.length u6.gc, .slice u6.lA k.locks.length u6.lc, .slice u6.pA k.procs.length u6.pc, .slice u6.eA k.entry.length u6.ec, .slice u6.iA k.ins.length u6.ic] 31) = V at bx ⊢
  have hbx7 := hbx6.to bx.1
  have k7 := k6.full.below bx.1
  obtain ⟨q1, q2, c0, c1, c2, c3, c4⟩ := id bx
  refine (HIM.out u6 _ _ k7).mono ?_
  rintro e w9 ⟨rfl, hb9⟩
  have hbx9 := hbx7.to hb9
  have bx9 := bx.to hb9
  have k9 := k7.full.below hb9
  clear hbx7 bx k7 hb9 hbx6 k6 q1 q2 c0 c1 c2 c3 c4
  have hne : (besideA k x0 x1 != besideA k x0 x1) = false := by simp
  obtain ⟨q1, q2, c0, c1, c2, c3, c4⟩ := id hbx9
  obtain ⟨p1, p2, d0, d1, d2, d3, d4'⟩ := id bx9
  go_wp2_with fail
  go_region_held3 (fun w' => Below w9.heap.size w9 w' ∧ w'.cell? ⟨w.heap.size, 0, none⟩ = some (.slice v.gA k.globals.length v.gc) ∧ w'.cell? ⟨w.heap.size, 1, none⟩ = some (.slice v.lA k.locks.length v.lc) ∧
      w'.cell? ⟨w.heap.size, 2, none⟩ = some (.slice v.pA k.procs.length v.pc) ∧ w'.cell? ⟨w.heap.size, 3, none⟩ = some (.slice v.eA k.entry.length v.ec) ∧ w'.cell? ⟨w.heap.size, 4, none⟩ = some (.slice v.iA k.ins.length v.ic) ∧
      w'.cell? ⟨w6.heap.size, 0, none⟩ = some (.slice u6.gA k.globals.length u6.gc) ∧ w'.cell? ⟨w6.heap.size, 1, none⟩ = some (.slice u6.lA k.locks.length u6.lc) ∧
      w'.cell? ⟨w6.heap.size, 2, none⟩ = some (.slice u6.pA k.procs.length u6.pc) ∧ w'.cell? ⟨w6.heap.size, 3, none⟩ = some (.slice u6.eA k.entry.length u6.ec) ∧ w'.cell? ⟨w6.heap.size, 4, none⟩ = some (.slice u6.iA k.ins.length u6.ic))
    (first | exact ⟨(Below.refl _ _).drew, c0, c1, c2, c3, c4, d0, d1, d2, d3, d4'⟩ | assumption | (go_split_ands; refine ⟨below_trans' (by assumption) hb1, ?_, ?_, ?_, ?_, ?_, ?_, ?_, ?_, ?_, ?_⟩ <;> exact cell_below hb1 (by assumption)))
    (first | (go_at_call 10; go_split_ands; refine (HTo.out _ (hk.below (below_trans' q1 (by assumption)))).mono ?_; rintro e w1 ⟨u10, rfl, k10, hb1⟩) | (go_at_call 12; go_split_ands; refine (eqCode_any _ _ k _ (k9.full.below (by assumption)) (k10.sub (Nat.le_refl _) high_low) hcb).mono ?_; rintro e w1 ⟨rfl, hb1⟩))
  rename_i W1 _ hS
  have hbS := hS.1
  clear hS c0 c1 c2 c3 c4 d0 d1 d2 d3 d4' p1 p2
  go_wp2_with fail
  go_ret
  exact ⟨rfl, below_trans' q1 hbS⟩

set_option maxRecDepth 100000 in
theorem lifted (os : Os) (started : os.Started) (H : Type) (enc : TypeId × Value → H) :
    ReturnsInHanded {} Try.checked os 5 .any (Rows.fnExactBesideSpec.pre6 enc Try.prog Try.f5 Rows.fnExactBesideRow.domain false) (Rows.fnExactBesideSpec.post enc Try.prog Try.f5 false true false false) := by
  refine returnsInHanded_of_change (C := Try.checked) own started (by kernel_rfl) Try.func5
    (ChangeSpec.witness6 (enc := enc) (C := Try.checked) false ⟨#[], #[.agg #[.slice none 0 0, .slice none 0 0, .slice none 0 0, .slice none 0 0, .slice none 0 0], .int .i64 0, .int .i64 0], []⟩ 8 (by kernel_rfl) (by kernel_rfl) (by kernel_rfl) (by kernel_rfl)) ?_
  intro W base args ds gs before hval0 hW hcnd _
  have hval : ∀ (j : Nat) t v, Try.f5.params[j]? = some t → args[j]? = some v → Value.okWide Try.prog W .any base t v := hval0
  have hW' := hW
  obtain ⟨p, q, hA0, hV, rfl, hfz, hnd⟩ := hW
  have hA : DataW.TrodAll enc Try.prog W 0 (fun _ => true) true Try.f5.params.toList args.toList ds p := hA0
  rw [Try.params5] at hA hval
  obtain ⟨v0, vs0, d0, ds0, p0, q0, hargs, rfl, rfl, h0, r0⟩ := trodAll_cons hA
  obtain ⟨v1, vs1, d1, ds1, p1, q1, rfl, rfl, rfl, h1, r1⟩ := trodAll_cons r0
  obtain ⟨v2, vs2, d2, ds2, p2, q2, rfl, rfl, rfl, h2, r2⟩ := trodAll_cons r1
  obtain ⟨rfl, rfl, rfl⟩ := trodAll_nil r2
  obtain rfl : args = #[v0, v1, v2] := by cases args; simp_all
  clear hA0 hval0
  obtain ⟨u0, k0, rfl, hk0, hcb0⟩ := code_open (hval 0 26 v0 rfl rfl) h0
  obtain ⟨a1, rfl, rfl, rfl, wf1⟩ := open_int Try.underlying3 (hval 1 3 v1 rfl rfl) h1
  have ft1 := fits_of_wf wf1
  obtain ⟨a2, rfl, rfl, rfl, wf2⟩ := open_int Try.underlying3 (hval 2 3 v2 rfl rfl) h2
  have ft2 := fits_of_wf wf2
  refine (walk u0 k0 a1 a2 W hk0 hcb0).mono fun e W' ⟨he, hb⟩ => ?_
  subst he
  exact ⟨_, rfl, post_of_law laidOut rfl Try.underlying4 rfl (by kernel_rfl) (fun ds hds => by
    match ds, hds with
    | [_, _, _], _ => exact ⟨rfl, rfl, rfl⟩) hW' hb⟩

theorem over : Rows.fnExactBesideRow.holds Try.pinned (OpenSpec.ofChange Rows.fnExactBesideSpec) :=
  OpenClaim.holds_of_wide 5 Try.f5 rfl rfl rfl rfl rfl rfl rfl ⟨rfl, rfl, rfl, rfl, rfl⟩ rfl rfl rfl rfl rfl (by kernel_rfl) Try.func5 (by kernel_rfl)
    (of_decide_eq_true (by kernel_rfl)) (by unfold Func.isWrapper; first | (rw [if_pos (by decide +kernel)]; kernel_rfl) | (rw [if_neg (by decide +kernel)]; exact ⟨rfl, rfl⟩))
    (fun os started H enc _ => lifted os started H enc)

theorem proved : Rows.FnExactBesideSaid := over
#print axioms proved
end Go.Proofs.Ytfecdgjnncpcjaa.fnExactBeside
