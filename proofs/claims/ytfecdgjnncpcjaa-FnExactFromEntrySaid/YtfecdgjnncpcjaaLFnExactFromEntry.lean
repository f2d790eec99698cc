/- The program's FromEntry returns what the reference's FromEntry returns, for all arguments: the law FnExactFromEntry returns true. No condition beyond the given statement's own. -/
import Derived.Test.YtfecdgjnncpcjaaG6
import Derived.Test.YtfecdgjnncpcjaaG7
import Derived.Test.YtfecdgjnncpcjaaG8
import Derived.Test.YtfecdgjnncpcjaaM2
import Derived.Test.YtfecdgjnncpcjaaB2
import Derived.Test.YtfecdgjnncpcjaaB3
import Derived.Test.YtfecdgjnncpcjaaB4
set_option linter.unusedSimpArgs false
set_option linter.unusedVariables false
namespace Go.Proofs.Ytfecdgjnncpcjaa.fnExactFromEntry
open Go.ChangeShapes Go.WideShapes Go.ChangeAt Go.RowKit


set_option maxHeartbeats 4000000 in
theorem walk (v : CV) (k : Cd) (A : Option Addr) (c : Nat) (es : List (Int × Int)) (x0 x1 : Int) (w : World) (hk : CodeAt w w.heap.size v k) (hcb : CdB 9223372036854775807 k) (he : Rd w w.heap.size A (effCells es)) (hn : es.length ≤ 9223372036854775807) :
    Calls Try.prog 7 #[.agg #[.slice v.gA k.globals.length v.gc, .slice v.lA k.locks.length v.lc, .slice v.pA k.procs.length v.pc, .slice v.eA k.entry.length v.ec, .slice v.iA k.ins.length v.ic], .slice A es.length c, .int .i64 x0, .int .i64 x1] w fun e w' => e = .returned (.bool true) ∧ Below w.heap.size w w' := by
  have HSz := Lib.hid (fun W (h : CodeAt W w.heap.size v k) => szCode_any v k 1048576 W h hcb (by omega))
  have hb0 := lawBox w v k
  clear hcb
  go_enter Try.func7, Try.ntmps7
  go_wp2_with fail
  generalize w.alloc (.cells #[.slice v.gA k.globals.length v.gc, .slice v.lA k.locks.length v.lc, .slice v.pA k.procs.length v.pc, .slice v.eA k.entry.length v.ec, .slice v.iA k.ins.length v.ic] 26) = W at hb0 ⊢
  refine (HSz.out _ (hk.below hb0.1)).mono ?_
  rintro e w1 ⟨hb1, rfl | ⟨r1, rfl, hr1, hcn, hcb⟩⟩
  · go_wp2_with fail
    go_ret
    exact ⟨rfl, below_trans' hb0.1 hb1⟩
  have hbx1 := hb0.to hb1
  clear hb0 hb1 HSz
  have hn1 : ¬ ((r1 : Int) < 0) := by omega
  have hcnt : k.cnt ≤ 1048576 := by omega
  go_wp2_with fail
  refine (szEffectS_any A c es.length r1 _ hn (by omega)).mono ?_
  rintro e w1b ⟨hb1b, rfl | ⟨r2, rfl, hr2, hes⟩⟩
  · go_wp2_with fail
    go_ret
    exact ⟨rfl, below_trans' hbx1.1 hb1b⟩
  have hbx1 := hbx1.to hb1b
  have hn2 : ¬ ((r2 : Int) < 0) := by omega
  have hes' : es.length ≤ 1048576 := by omega
  have HTE := Lib.hid (fun W (h : Rd W w.heap.size A (effCells es)) => toEffectS_any A c es W h hes')
  have HEE := Lib.hid (fun A A' c d B B' W (h : Rd W B A (effCells es)) (g : Rd W B' A' (effCells es)) => eqEffectS_any A A' c d es W h g hes')
  clear hb1b hes hn
  have HTo := Lib.hid (fun W (h : CodeAt W w.heap.size v k) => toCode_any v k W h hcb)
  have HSP := Lib.hid (fun u B W A' c' B' (h : CodeAt W B u k) (g : Rd W B' A' (effCells es)) => fromEntry_s u k A' c' es x0 x1 W h hcb (by omega) g hes')
  have HIM := Lib.hid (fun u B W A' c' B' (h : CodeAt W B u k) (g : Rd W B' A' (effCells es)) => fromEntry_i u k A' c' es x0 x1 W h hcb (by omega) g hes')
  have hlen : (fromL k es x0 x1).length ≤ 1048576 := Nat.le_trans (fromL_len k es x0 x1) hcb.ins
  generalize fromL k es x0 x1 = zs at HSP HIM hlen
  clear hcn
  obtain ⟨q1, q2, c0, c1, c2, c3, c4⟩ := id hbx1
  go_wp2_with fail
  clear q1 q2 c0 c1 c2 c3 c4
  refine (HTo.out _ (hk.below hbx1.1)).mono ?_
  rintro e w3 ⟨u3, rfl, k3, hb3⟩
  have hbx3 := hbx1.to hb3
  have k3 := k3.sub (Nat.le_refl _) high_low
  clear hbx1 hb3
  go_wp2_with fail
  refine (HTE.out _ (he.below hbx3.1)).mono ?_
  rintro e w4 ⟨A4, d4, rfl, o4, hb4⟩
  have hbx4 := hbx3.to hb4
  have k4 := k3.full.below hb4
  clear hbx3 k3 hb4
  go_wp2_with fail
  refine (HSP.out u3 _ _ A4 d4 _ k4 (own_rd o4)).mono ?_
  rintro e w5 ⟨A5, c5, rfl, ho5, hb5⟩
  have hbx5 := hbx4.to hb5
  have r5 := own_rd ho5
  have hw5 : w.heap.size < w5.heap.size := hbx5.2.1
  clear hbx4 k4 o4 hb5 ho5
  obtain ⟨q1, q2, c0, c1, c2, c3, c4⟩ := id hbx5
  go_wp2_with fail
  clear q1 q2 c0 c1 c2 c3 c4
  refine (HTo.out _ (hk.below hbx5.1)).mono ?_
  rintro e w6 ⟨u6, rfl, k6, hb6⟩
  have hs6 := hb6.size
  have bx := codeBox w6 u6 k
  go_wp2_with fail
  generalize w6.alloc (.cells #[.slice u6.gA k.globals.length u6.gc, .slice u6.lA k.locks.length u6.lc, .slice u6.pA k.procs.length u6.pc, .slice u6.eA k.entry.length u6.ec, .slice u6.iA k.ins.length u6.ic] 31) = V at bx ⊢
  have hbV := below_trans' hb6 bx.1
  have hsV := bx.2.1
  have k7 := (k6.sub (Nat.le_refl _) high_low).full.below bx.1
  refine (HTE.out _ (he.below (hbx5.to hbV).1)).mono ?_
  rintro e w8 ⟨A8, d8, rfl, o8, hb8⟩
  have bx := bx.to hb8
  have k7 := k7.full.below hb8
  have hbV8 := below_trans' hbV hb8
  have hsz8 := hb8.size
  have o8K := fun g (h : (Value.slice A8 es.length d8).ownBlock = some g) => (o8.lt g h).2
  obtain ⟨q1, q2, c0, c1, c2, c3, c4⟩ := id bx
  go_wp2_with fail
  refine (HIM.out u6 _ _ A8 d8 _ k7 (own_rd o8)).mono ?_
  rintro e w9 ⟨A9, c9, rfl, ho9, hb9⟩
  have o9 := own_below o8 hb9
  have ho9K := fun g (h : (Value.slice A9 zs.length c9).ownBlock = some g) => ho9.lt g h
  have hb59 := below_trans' hbV8 hb9
  have hs9 := hb9.size
  have bx9 := bx.to hb9
  clear bx q1 q2 c0 c1 c2 c3 c4
  go_wp2_with fail
  refine (eqNats_same A9 A5 c9 c5 zs _ (own_rd ho9) (r5.below hb59) (by omega)).mono ?_
  rintro e w10 ⟨rfl, hb10⟩
  have ho10 := own_below ho9 hb10
  have o10 := own_below o9 hb10
  have hs10 := hb10.size
  have hb510 := below_trans' hb59 hb10
  have bx10 := bx9.to hb10
  have k10' := (k7.full.below hb9).full.below hb10
  have hbx10 := hbx5.to hb510
  have hbx10R := hbx10
  clear ho9 hb59 bx9 hb9 k7
  obtain ⟨q1, q2, c0, c1, c2, c3, c4⟩ := id hbx10
  obtain ⟨p1, p2, d0, d1, d2, d3, d4'⟩ := id bx10
  go_wp2_with fail
  go_region_held3 (fun w' => Below w10.heap.size w10 w' ∧ w'.cell? ⟨w.heap.size, 0, none⟩ = some (.slice v.gA k.globals.length v.gc) ∧ w'.cell? ⟨w.heap.size, 1, none⟩ = some (.slice v.lA k.locks.length v.lc) ∧
      w'.cell? ⟨w.heap.size, 2, none⟩ = some (.slice v.pA k.procs.length v.pc) ∧ w'.cell? ⟨w.heap.size, 3, none⟩ = some (.slice v.eA k.entry.length v.ec) ∧ w'.cell? ⟨w.heap.size, 4, none⟩ = some (.slice v.iA k.ins.length v.ic) ∧
      w'.cell? ⟨w6.heap.size, 0, none⟩ = some (.slice u6.gA k.globals.length u6.gc) ∧ w'.cell? ⟨w6.heap.size, 1, none⟩ = some (.slice u6.lA k.locks.length u6.lc) ∧
      w'.cell? ⟨w6.heap.size, 2, none⟩ = some (.slice u6.pA k.procs.length u6.pc) ∧ w'.cell? ⟨w6.heap.size, 3, none⟩ = some (.slice u6.eA k.entry.length u6.ec) ∧ w'.cell? ⟨w6.heap.size, 4, none⟩ = some (.slice u6.iA k.ins.length u6.ic))
    (first | exact ⟨(Below.refl _ _).drew, c0, c1, c2, c3, c4, d0, d1, d2, d3, d4'⟩ | assumption | (go_split_ands; refine ⟨below_trans' (by assumption) hb1, ?_, ?_, ?_, ?_, ?_, ?_, ?_, ?_, ?_, ?_⟩ <;> exact cell_below hb1 (by assumption)))
    (first | (go_at_call 10; go_split_ands; refine (HTo.out _ (hk.below (below_trans' q1 (by assumption)))).mono ?_; rintro e w1 ⟨u10, rfl, k10, hb1⟩) | (go_at_call 12; go_split_ands; refine (eqCode_any _ _ k _ (k10'.full.below (by assumption)) (k10.sub (Nat.le_refl _) high_low) hcb).mono ?_; rintro e Wr ⟨rfl, hb1⟩))
  rename_i hS
  have hbS0 := hS.1
  have or := own_below o10 hbS0
  clear hS c0 c1 c2 c3 c4 d0 d1 d2 d3 d4' p1 p2 q1 q2
  have hbxr := hbx10R.to hbS0
  go_wp2_with fail
  refine (HTE.out _ (he.below hbxr.1)).mono ?_
  rintro e w11 ⟨A11, d11, rfl, o11, hb11⟩
  go_wp2_with fail
  refine (HEE.out A8 A11 d8 d11 _ _ _ ((own_rd or).below hb11) (own_rd o11)).mono ?_
  rintro e W1 ⟨rfl, hb12⟩
  have hbS := below_trans' (below_trans' hbS0 hb11) hb12
  have o12 := own_below (own_below or hb11) hb12
  clear hbS0 hb11 hb12 or o11 hbxr hbx10R
  have hVW1 : w8.heap.size ≤ W1.heap.size := by
    have h1 := hs9
    have h2 := hs10
    have h3 := hbS.size
    omega
  have ho11 := own_below ho10 hbS
  have hb511 := below_trans' hb510 hbS
  have bx11 := bx10.to hbS
  have hbV10 : Below w6.heap.size w6 W1 := bx11.1
  have kH : CodeAt (High W1 w5.heap.size) w6.heap.size u6 k := k6.sub (Nat.le_refl _) (high_below (Nat.le_refl _) hbV10)
  clear ho10 hb510 bx10 hbx10 k10' hb10
  obtain ⟨p1, p2, d0, d1, d2, d3, d4'⟩ := id bx11
  go_wp2_with fail
  refine (markCode_le w5.heap.size w6.heap.size u6 k 1 W1 W1 kH (Mk.refl _ _ _) hcb hcnt (by omega) hbV10.size).mono ?_
  rintro e W2a ⟨qm0, rfl, hqm0, hm⟩
  have hszMa := hm.size
  clear d0 d1 d2 d3 d4' p1 p2
  have hmBa : Below w5.heap.size W1 W2a := hm.low (by have := hb511.size; omega)
  have ho12a := hm.own ho11 (by omega)
  have o13 := hm.own o12 (by omega)
  have hV2 : w8.heap.size ≤ W2a.heap.size := Nat.le_trans hVW1 hszMa
  clear hm ho11 bx11 kH o12
  go_wp2_with fail
  refine (markEffectS_any A8 d8 es.length qm0 _ _ o13 hes' (by omega)).mono ?_
  rintro e W2 ⟨rfl, o14, hg14e⟩
  have hszMb := hg14e.size
  have hszM : W1.heap.size ≤ W2.heap.size := Nat.le_trans hszMa hszMb
  have hmE : Below V.heap.size W2a W2 := below_mark o13 hg14e (by omega)
  have hmB : Below w5.heap.size W1 W2 := hmBa.trans (hmE.mono (by have := hbV.size; omega))
  have hb512 := hb511.trans hmB
  have ho12 := ho12a.kept hg14e (by
    cases e8 : (Value.slice A9 zs.length c9).ownBlock with
    | none => exact .inl rfl
    | some g9 =>
      refine .inr fun e9 => ?_
      have h1 := (ho9K g9 e8).1
      have h2 := (o8K g9 e9.symm)
      omega)
  generalize qm0 + es.length * 2 = qm
  clear hmE hmBa ho12a o13 o14 hg14e hb511 hmB
  have hq0 : ¬ ((qm : Int) < 0) := by omega
  go_wp2_with fail
  refine (eqNats_same A9 A5 c9 c5 zs _ (own_rd ho12) (r5.below hb512) (by omega)).mono ?_
  rintro e W3 ⟨rfl, hb13⟩
  have ho13 := own_below ho12 hb13
  have hsz13 := hb13.size
  have hb513 := below_trans' hb512 hb13
  clear ho12 hb512 hb13
  go_wp2_with fail
  refine (markIntS_any A9 c9 zs.length 1 _ _ ho13 (by omega) (by omega)).mono ?_
  rintro e W4 ⟨rfl, ho14, hg14⟩
  generalize hmm : 1 + zs.length = mm
  have hmp : ¬ ((mm : Int) < 0) := by omega
  have hmn : ((mm : Int) != (mm : Int)) = false := by simp
  have HMM := Lib.hid hmm
  clear hmm
  have hVW3 : w8.heap.size ≤ W3.heap.size := by
    have h1 := hVW1
    have h2 := hszM
    have h3 := hsz13
    omega
  have hb14 : Below w8.heap.size W3 W4 := below_mark ho13 hg14 hVW3
  have hb514 := hb513.trans (hb14.mono (by omega))
  clear ho13 hg14 hb14 hb513
  have hH := heldIntS_b A9 c9 zs.length 1 W4 (own_rd ho14) (by omega) (by omega)
  rw [HMM.out] at hH
  have HH := Lib.hid hH
  clear hH
  go_wp2_with fail
  refine HH.out.mono ?_
  clear HH
  rintro e W5 ⟨rfl, hb15⟩
  have ho15 := own_below ho14 hb15
  have hb515 := below_trans' hb514 hb15
  have hbx15 := hbx5.to hb515
  clear ho14 hb514 hb15
  obtain ⟨q1, q2, c0, c1, c2, c3, c4⟩ := id hbx15
  go_wp2_with fail
  refine (HTo.out _ (hk.below hbx15.1)).mono ?_
  rintro e W6 ⟨u16, rfl, k16, hb16⟩
  clear q1 q2 c0 c1 c2 c3 c4
  have k16 := k16.sub (Nat.le_refl _) high_low
  go_wp2_with fail
  refine (HTE.out _ (he.below (hbx15.to hb16).1)).mono ?_
  rintro e W6b ⟨A16, d16, rfl, o16, hb16b⟩
  have k17 := k16.full.below hb16b
  go_wp2_with fail
  refine (HIM.out u16 _ _ A16 d16 _ k17 (own_rd o16)).mono ?_
  rintro e W7 ⟨A17, c17, rfl, ho17, hb17⟩
  have hb27 := below_trans' (below_trans' hb16 hb16b) hb17
  have hb527 := below_trans' hb515 hb27
  have ho27 := own_below ho15 hb27
  clear k16 hb16 hb17 hb27 ho15 hb515 hbx15
  go_wp2_with fail
  refine (eqNats_same A17 A5 c17 c5 zs _ (own_rd ho17) (r5.below hb527) (by omega)).mono ?_
  rintro e W8 ⟨rfl, hb18⟩
  have ho28 := own_below ho27 hb18
  have hb528 := below_trans' hb527 hb18
  clear hb18 ho27 hb527 ho17
  have hH := heldIntS_b A9 c9 zs.length 1 W8 (own_rd ho28) (by omega) (by omega)
  rw [HMM.out] at hH
  have HH := Lib.hid hH
  clear hH
  go_wp2_with fail
  refine HH.out.mono ?_
  rintro e W9 ⟨rfl, hb19⟩
  go_wp2_with fail
  go_ret
  exact ⟨rfl, (hbx5.to (below_trans' hb528 hb19)).1⟩

set_option maxRecDepth 100000 in
theorem lifted (os : Os) (started : os.Started) (H : Type) (enc : TypeId × Value → H) :
    ReturnsInHanded {} Try.checked os 7 .any (Rows.fnExactFromEntrySpec.pre6 enc Try.prog Try.f7 Rows.fnExactFromEntryRow.domain false) (Rows.fnExactFromEntrySpec.post enc Try.prog Try.f7 false true false false) := by
  refine returnsInHanded_of_change (C := Try.checked) own started (by kernel_rfl) Try.func7
    (ChangeSpec.witness6 (enc := enc) (C := Try.checked) false ⟨#[], #[.agg #[.slice none 0 0, .slice none 0 0, .slice none 0 0, .slice none 0 0, .slice none 0 0], .slice none 0 0, .int .i64 0, .int .i64 0], []⟩ 8 (by kernel_rfl) (by kernel_rfl) (by kernel_rfl) (by kernel_rfl)) ?_
  intro W base args ds gs before hval0 hW hcnd _
  have hval : ∀ (j : Nat) t v, Try.f7.params[j]? = some t → args[j]? = some v → Value.okWide Try.prog W .any base t v := hval0
  have hW' := hW
  obtain ⟨p, q, hA0, hV, rfl, hfz, hnd⟩ := hW
  have hA : DataW.TrodAll enc Try.prog W 0 (fun _ => true) true Try.f7.params.toList args.toList ds p := hA0
  rw [Try.params7] at hA hval
  obtain ⟨v0, vs0, d0, ds0, p0, q0, hargs, rfl, rfl, h0, r0⟩ := trodAll_cons hA
  obtain ⟨v1, vs1, d1, ds1, p1, q1, rfl, rfl, rfl, h1, r1⟩ := trodAll_cons r0
  obtain ⟨v2, vs2, d2, ds2, p2, q2, rfl, rfl, rfl, h2, r2⟩ := trodAll_cons r1
  obtain ⟨v3, vs3, d3, ds3, p3, q3, rfl, rfl, rfl, h3, r3⟩ := trodAll_cons r2
  obtain ⟨rfl, rfl, rfl⟩ := trodAll_nil r3
  obtain rfl : args = #[v0, v1, v2, v3] := by cases args; simp_all
  clear hA0 hval0
  obtain ⟨u0, k0, rfl, hk0, hcb0⟩ := code_open (hval 0 26 v0 rfl rfl) h0
  have key1 : ∃ (A : Option Addr) (c : Nat) (es : List (Int × Int)), v1 = .slice A es.length c ∧ Rd W W.heap.size A (effCells es) ∧ es.length ≤ 9223372036854775807 := by
    obtain ⟨fuel, h1⟩ := h1
    rw [slice_cells Try.underlying41 (hval 1 41 v1 rfl rfl)] at h1
    obtain ⟨A, c, es, e, hr, hn⟩ := effs_open h1
    injection e with e
    exact ⟨A, c, es, e, hr, hn⟩
  obtain ⟨A1, c1, es1, rfl, hr1, hn1⟩ := key1
  obtain ⟨a2, rfl, rfl, rfl, wf2⟩ := open_int Try.underlying3 (hval 2 3 v2 rfl rfl) h2
  have ft2 := fits_of_wf wf2
  obtain ⟨a3, rfl, rfl, rfl, wf3⟩ := open_int Try.underlying3 (hval 3 3 v3 rfl rfl) h3
  have ft3 := fits_of_wf wf3
  refine (walk u0 k0 A1 c1 es1 a2 a3 W hk0 hcb0 hr1 hn1).mono fun e W' ⟨he, hb⟩ => ?_
  subst he
  exact ⟨_, rfl, post_of_law laidOut rfl Try.underlying4 rfl (by kernel_rfl) (fun ds hds => by
    match ds, hds with
    | [_, _, _, _], _ => exact ⟨rfl, rfl, rfl⟩) hW' hb⟩

theorem over : Rows.fnExactFromEntryRow.holds Try.pinned (OpenSpec.ofChange Rows.fnExactFromEntrySpec) :=
  OpenClaim.holds_of_wide 7 Try.f7 rfl rfl rfl rfl rfl rfl rfl ⟨rfl, rfl, rfl, rfl, rfl⟩ rfl rfl rfl rfl rfl (by kernel_rfl) Try.func7 (by kernel_rfl)
    (of_decide_eq_true (by kernel_rfl)) (by unfold Func.isWrapper; first | (rw [if_pos (by decide +kernel)]; kernel_rfl) | (rw [if_neg (by decide +kernel)]; exact ⟨rfl, rfl⟩))
    (fun os started H enc _ => lifted os started H enc)

theorem proved : Rows.FnExactFromEntrySaid := over
#print axioms proved
end Go.Proofs.Ytfecdgjnncpcjaa.fnExactFromEntry
