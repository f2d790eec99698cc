/- The program's Moved returns what the reference's Moved returns, for all arguments: the law FnExactMoved returns true. No condition beyond the given statement's own. -/
import Derived.Test.YtjnlmiekldflhaaMovedW
import Derived.Test.YtjnlmiekldflhaaOpenE
import Derived.Test.YtjnlmiekldflhaaLToC
import Derived.Test.YtjnlmiekldflhaaLEq
import Derived.Test.YtjnlmiekldflhaaLSz
set_option linter.unusedSimpArgs false
set_option linter.unusedVariables false
namespace Go.Proofs.Ytjnlmiekldflhaa.fnExactMoved
open Go.ChangeShapes Go.WideShapes Go.ChangeAt Go.RowKit


set_option maxHeartbeats 2000000 in
theorem walk (v : CV) (k : Cd) (A : Option Addr) (c : Nat) (es : List (Int × Int)) (at_ held : Int) (w : World) (hk : CodeAt w w.heap.size v k) (hcb : CdB 9223372036854775807 k) (he : Rd w w.heap.size A (effCells es)) (hn : es.length ≤ 9223372036854775807) :
    Calls Try.prog 3 #[.agg #[.slice v.gA k.globals.length v.gc, .slice v.lA k.locks.length v.lc, .slice v.pA k.procs.length v.pc, .slice v.eA k.entry.length v.ec, .slice v.iA k.ins.length v.ic], .slice A es.length c, .int .i64 at_, .int .i64 held] w fun e w' => e = .returned (.bool true) ∧ Below w.heap.size w w' := by
  have HSz := Lib.hid (fun W (h : CodeAt W w.heap.size v k) => szCode_any v k 1048576 W h hcb (by omega))
  have hb0 := lawBox w v k
  clear hcb
  go_enter Try.func3, Try.ntmps3
  go_wp2_with fail
  generalize w.alloc (.cells #[.slice v.gA k.globals.length v.gc, .slice v.lA k.locks.length v.lc, .slice v.pA k.procs.length v.pc, .slice v.eA k.entry.length v.ec, .slice v.iA k.ins.length v.ic] 26) = W at hb0 ⊢
  refine (HSz.out _ (hk.below hb0.1)).mono ?_
  rintro e w1 ⟨hb1, rfl | ⟨r1, rfl, hr1, _, hcb⟩⟩
  · go_wp2_with fail
    go_ret
    exact ⟨rfl, below_trans' hb0.1 hb1⟩
  have hbx1 := hb0.to hb1
  clear hb0 hb1 HSz
  have hn1 : ¬ ((r1 : Int) < 0) := by omega
  go_wp2_with fail
  refine (szEffectS_any A c es.length r1 _ hn (by omega)).mono ?_
  rintro e w2 ⟨hb2, rfl | ⟨r2, rfl, hr2, hes⟩⟩
  · go_wp2_with fail
    go_ret
    exact ⟨rfl, below_trans' hbx1.1 hb2⟩
  have hbx2 := hbx1.to hb2
  clear hbx1 hb2
  have hn2 : ¬ ((r2 : Int) < 0) := by omega
  have hes' : es.length ≤ 1048576 := by omega
  have HTo := Lib.hid (fun W (h : CodeAt W w.heap.size v k) => toCode_any v k W h hcb)
  have HTe := Lib.hid (fun W (h : Rd W w.heap.size A (effCells es)) => toEffectS_any A c es W h hes')
  clear hes hn
  obtain ⟨q1, q2, c0, c1, c2, c3, c4⟩ := id hbx2
  go_wp2_with fail
  clear q1 q2 c0 c1 c2 c3 c4
  refine (HTo.out _ (hk.below hbx2.1)).mono ?_
  rintro e w3 ⟨u3, rfl, k3, hb3⟩
  have hbx3 := hbx2.to hb3
  have k3 := k3.sub (Nat.le_refl _) high_low
  clear hbx2 hb3
  go_wp2_with fail
  refine (HTe.out _ (he.below hbx3.1)).mono ?_
  rintro e w4 ⟨A4, d4, rfl, o4, hb4⟩
  have hbx4 := hbx3.to hb4
  have k4 := k3.full.below hb4
  clear hbx3 k3 hb4
  go_wp2_with fail
  refine (moved_s u3 k A4 d4 es at_ held _ k4 hcb (by omega) (own_rd o4) hes').mono ?_
  rintro e w5 ⟨rfl, hb5⟩
  have hbx5 := hbx4.to hb5
  clear hbx4 k4 o4 hb5
  obtain ⟨q1, q2, c0, c1, c2, c3, c4⟩ := id hbx5
  go_wp2_with fail
  clear q1 q2 c0 c1 c2 c3 c4
  refine (HTo.out _ (hk.below hbx5.1)).mono ?_
  rintro e w6 ⟨u6, rfl, k6, hb6⟩
  have hbx6 := hbx5.to hb6
  have k6 := k6.sub (Nat.le_refl _) high_low
  clear hbx5 hb6
  go_wp2_with fail
  have bx := codeBox w6 u6 k
  generalize w6.alloc (.cells #[.slice u6.gA k.globals.length u6.gc, .slice u6.lA k.locks.length u6.lc, .slice u6.pA k.procs.length u6.pc, .slice u6.eA k.entry.length u6.ec, .slice u6.iA k.ins.length u6.ic] 33) = V at bx ⊢
  have hbx7 := hbx6.to bx.1
  have k7 := k6.full.below bx.1
  refine (HTe.out _ (he.below hbx7.1)).mono ?_
  rintro e w8 ⟨A8, d8, rfl, o8, hb8⟩
  have hbx8 := hbx7.to hb8
  have bx8 := bx.to hb8
  have k8 := k7.full.below hb8
  clear hbx7 bx k7 hb8 k6 hbx6
  obtain ⟨q1, q2, c0, c1, c2, c3, c4⟩ := id bx8
  go_wp2_with fail
  clear q1 q2 c0 c1 c2 c3 c4
  refine (moved_i u6 k A8 d8 es at_ held _ k8 hcb (by omega) (own_rd o8) hes').mono ?_
  rintro e w9 ⟨rfl, hb9⟩
  have hbx9 := hbx8.to hb9
  have bx9 := bx8.to hb9
  have k9 := k8.full.below hb9
  have o9 := own_below o8 hb9
  clear hbx8 bx8 k8 o8 hb9
  have hne : (movedA k es at_ held != movedA k es at_ held) = false := by simp
  obtain ⟨q1, q2, c0, c1, c2, c3, c4⟩ := id hbx9
  obtain ⟨p1, p2, d0, d1, d2, d3, d4'⟩ := id bx9
  go_wp2_with fail
  go_region_held3 (fun w' => Below w9.heap.size w9 w' ∧ w'.cell? ⟨w.heap.size, 0, none⟩ = some (.slice v.gA k.globals.length v.gc) ∧ w'.cell? ⟨w.heap.size, 1, none⟩ = some (.slice v.lA k.locks.length v.lc) ∧
      w'.cell? ⟨w.heap.size, 2, none⟩ = some (.slice v.pA k.procs.length v.pc) ∧ w'.cell? ⟨w.heap.size, 3, none⟩ = some (.slice v.eA k.entry.length v.ec) ∧ w'.cell? ⟨w.heap.size, 4, none⟩ = some (.slice v.iA k.ins.length v.ic) ∧
      w'.cell? ⟨w6.heap.size, 0, none⟩ = some (.slice u6.gA k.globals.length u6.gc) ∧ w'.cell? ⟨w6.heap.size, 1, none⟩ = some (.slice u6.lA k.locks.length u6.lc) ∧
      w'.cell? ⟨w6.heap.size, 2, none⟩ = some (.slice u6.pA k.procs.length u6.pc) ∧ w'.cell? ⟨w6.heap.size, 3, none⟩ = some (.slice u6.eA k.entry.length u6.ec) ∧ w'.cell? ⟨w6.heap.size, 4, none⟩ = some (.slice u6.iA k.ins.length u6.ic))
    (first | exact ⟨(Below.refl _ _).drew, c0, c1, c2, c3, c4, d0, d1, d2, d3, d4'⟩ | assumption | (go_split_ands; refine ⟨below_trans' (by assumption) hb1, ?_, ?_, ?_, ?_, ?_, ?_, ?_, ?_, ?_, ?_⟩ <;> exact cell_below hb1 (by assumption)))
    (first | (go_at_call 18; go_split_ands; refine (HTo.out _ (hk.below (below_trans' q1 (by assumption)))).mono ?_; rintro e w1 ⟨u10, rfl, k10, hb1⟩) | (go_at_call 21; go_split_ands; refine (eqCode_any _ _ k _ (k9.full.below (by assumption)) (k10.sub (Nat.le_refl _) high_low) hcb).mono ?_; rintro e w1 ⟨rfl, hb1⟩))
  rename_i W1 _ hS
  have hbS := hS.1
  clear hS c0 c1 c2 c3 c4 d0 d1 d2 d3 d4' q1 q2 p1 p2
  have hbx10 := hbx9.to hbS
  have o10 := own_below o9 hbS
  go_wp2_with fail
  refine (HTe.out _ (he.below hbx10.1)).mono ?_
  rintro e w11 ⟨A11, d11, rfl, o11, hb11⟩
  go_wp2_with fail
  refine (eqEffectS_any A8 A11 d8 d11 es _ ((own_rd o10).below hb11) (own_rd o11) hes').mono ?_
  rintro e w12 ⟨rfl, hb12⟩
  go_wp2_with fail
  go_ret
  exact ⟨rfl, below_trans' (below_trans' hbx10.1 hb11) hb12⟩

set_option maxRecDepth 100000 in
theorem lifted (os : Os) (started : os.Started) (H : Type) (enc : TypeId × Value → H) :
    ReturnsInHanded {} Try.checked os 3 .any (Rows.fnExactMovedSpec.pre6 enc Try.prog Try.f3 Rows.fnExactMovedRow.domain false) (Rows.fnExactMovedSpec.post enc Try.prog Try.f3 false true false false) := by
  refine returnsInHanded_of_change (C := Try.checked) own started (by kernel_rfl) Try.func3
    (ChangeSpec.witness6 (enc := enc) (C := Try.checked) false ⟨#[], #[.agg #[.slice none 0 0, .slice none 0 0, .slice none 0 0, .slice none 0 0, .slice none 0 0], .slice none 0 0, .int .i64 0, .int .i64 0], []⟩ 8 (by kernel_rfl) (by kernel_rfl) (by kernel_rfl) (by kernel_rfl)) ?_
  intro W base args ds gs before hval0 hW hcnd _
  have hval : ∀ (j : Nat) t v, Try.f3.params[j]? = some t → args[j]? = some v → Value.okWide Try.prog W .any base t v := hval0
  have hW' := hW
  obtain ⟨p, q, hA0, hV, rfl, hfz, hnd⟩ := hW
  have hA : DataW.TrodAll enc Try.prog W 0 (fun _ => true) true Try.f3.params.toList args.toList ds p := hA0
  rw [Try.params3] at hA hval
  obtain ⟨v0, vs0, d0, ds0, p0, q0, hargs, rfl, rfl, h0, r0⟩ := trodAll_cons hA
  obtain ⟨v1, vs1, d1, ds1, p1, q1, rfl, rfl, rfl, h1, r1⟩ := trodAll_cons r0
  obtain ⟨v2, vs2, d2, ds2, p2, q2, rfl, rfl, rfl, h2, r2⟩ := trodAll_cons r1
  obtain ⟨v3, vs3, d3, ds3, p3, q3, rfl, rfl, rfl, h3, r3⟩ := trodAll_cons r2
  obtain ⟨rfl, rfl, rfl⟩ := trodAll_nil r3
  obtain rfl : args = #[v0, v1, v2, v3] := by cases args; simp_all
  clear hA0 hval0
  obtain ⟨u0, k0, rfl, hk0, hcb0⟩ := code_open (hval 0 26 v0 rfl rfl) h0
  have key1 : ∃ (A : Option Addr) (c : Nat) (es : List (Int × Int)), v1 = .slice A es.length c ∧ Rd W W.heap.size A (effCells es) ∧ es.length ≤ 9223372036854775807 := by
    obtain ⟨fuel, h1⟩ := h1
    rw [slice_cells Try.underlying27 (hval 1 27 v1 rfl rfl)] at h1
    obtain ⟨A, c, es, e, hr, hn⟩ := effs_open h1
    injection e with e
    exact ⟨A, c, es, e, hr, hn⟩
  obtain ⟨A1, c1, es1, rfl, hr1, hn1⟩ := key1
  obtain ⟨a2, rfl, rfl, rfl, wf2⟩ := open_int Try.underlying3 (hval 2 3 v2 rfl rfl) h2
  have ft2 := fits_of_wf wf2
  obtain ⟨a3, rfl, rfl, rfl, wf3⟩ := open_int Try.underlying3 (hval 3 3 v3 rfl rfl) h3
  have ft3 := fits_of_wf wf3
  refine (walk u0 k0 A1 c1 es1 a2 a3 W hk0 hcb0 hr1 hn1).mono fun e W' ⟨he, hb⟩ => ?_
  subst he
  exact ⟨_, rfl, post_of_law laidOut rfl Try.underlying4 rfl (by kernel_rfl) (fun ds hds => by
    match ds, hds with
    | [_, _, _, _], _ => exact ⟨rfl, rfl, rfl⟩) hW' hb⟩

theorem over : Rows.fnExactMovedRow.holds Try.pinned (OpenSpec.ofChange Rows.fnExactMovedSpec) :=
  OpenClaim.holds_of_wide 3 Try.f3 rfl rfl rfl rfl rfl rfl rfl ⟨rfl, rfl, rfl, rfl, rfl⟩ rfl rfl rfl rfl rfl (by kernel_rfl) Try.func3 (by kernel_rfl)
    (of_decide_eq_true (by kernel_rfl)) (by unfold Func.isWrapper; first | (rw [if_pos (by decide +kernel)]; kernel_rfl) | (rw [if_neg (by decide +kernel)]; exact ⟨rfl, rfl⟩))
    (fun os started H enc _ => lifted os started H enc)

theorem proved : Rows.FnExactMovedSaid := over
#print axioms proved
end Go.Proofs.Ytjnlmiekldflhaa.fnExactMoved
