/- The program's ListOf returns what the reference's ListOf returns, at every int; its answer is new memory: the law FnExactListOf returns true. No condition beyond the given statement's own. -/
import Derived.Test.YtbiaddpmohlalaaBitsOf
import Derived.Test.YtbiaddpmohlalaaOpen
set_option linter.unusedSimpArgs false
set_option linter.unusedVariables false
namespace Go.Proofs.Ytbiaddpmohlalaa.fnExactListOf
open Go.ChangeShapes Go.WideShapes Go.ChangeAt Go.RowKit


theorem listOf_len (s : Int) : (listOf s).length ≤ 62 := by
  unfold listOf
  split
  · have := bitsTo_len s.toNat 62
    simpa [bitsL] using this
  · simp

theorem walk (s : Int) (w : World) :
    Calls Try.prog 10 #[.int .i64 s] w fun e w' => e = .returned (.bool true) ∧ Below w.heap.size w w' := by
  have hl := listOf_len s
  have hi := fun w => listOf_i s w
  have hs := fun w => listOf_s s w
  generalize listOf s = zs at hl hi hs
  have HI := Lib.hid hi
  have HS := Lib.hid hs
  clear hi hs
  go_enter Try.func10, Try.ntmps10
  go_wp2_with fail
  refine (HS.out _).mono ?_
  rintro e w1 ⟨A1, c1, rfl, ho1, hb1⟩
  go_wp2_with fail
  refine (HI.out _).mono ?_
  rintro e w2 ⟨A2, c2, rfl, ho2, hb2⟩
  go_wp2_with fail
  refine (eqIntS_same _ _ _ _ zs _ (own_rd ho2) ((own_rd ho1).below hb2) (by omega)).mono ?_
  rintro e w3 ⟨rfl, hb3⟩
  have ho3 := own_below ho2 hb3
  go_wp2_with fail
  refine (markIntS_any A2 c2 zs.length 1 _ _ ho3 (by omega) (by omega)).mono ?_
  rintro e w4 ⟨rfl, ho4, hg4⟩
  have hb13 := below_trans' hb2 hb3
  have hb4 : Below w1.heap.size w1 w4 := hb13.grown hg4 hb13.size fun k hk => (ho3.lt k hk).1
  go_wp2_with fail
  refine (heldIntS_b A2 c2 zs.length 1 _ (own_rd ho4) (by omega) (by omega)).mono ?_
  rintro e w5 ⟨rfl, hb5⟩
  go_wp2_with fail
  refine (HI.out _).mono ?_
  rintro e w6 ⟨A6, c6, rfl, ho6, hb6⟩
  have hb16 := below_trans' (below_trans' hb4 hb5) hb6
  have hb46 := below_trans' hb5 hb6
  go_wp2_with fail
  refine (eqIntS_same _ _ _ _ zs _ (own_rd ho6) ((own_rd ho1).below hb16) (by omega)).mono ?_
  rintro e w7 ⟨rfl, hb7⟩
  go_wp2_with fail
  refine (heldIntS_b A2 c2 zs.length 1 _ ((own_rd ho4).below (below_trans' hb46 hb7)) (by omega) (by omega)).mono ?_
  rintro e w8 ⟨rfl, hb8⟩
  go_wp2_with fail
  go_ret
  exact ⟨rfl, below_trans' hb1 (below_trans' (below_trans' hb16 hb7) hb8)⟩

set_option maxRecDepth 100000 in
theorem lifted (os : Os) (started : os.Started) (H : Type) (enc : TypeId × Value → H) :
    ReturnsInHanded {} Try.checked os 10 .any (Rows.fnExactListOfSpec.pre6 enc Try.prog Try.f10 Rows.fnExactListOfRow.domain false) (Rows.fnExactListOfSpec.post enc Try.prog Try.f10 false true false false) := by
  refine returnsInHanded_of_change (C := Try.checked) own started (by kernel_rfl) Try.func10
    (ChangeSpec.witness6 (enc := enc) (C := Try.checked) false ⟨#[], #[.int .i64 0], []⟩ 8 (by kernel_rfl) (by kernel_rfl) (by kernel_rfl) (by kernel_rfl)) ?_
  intro W base args ds gs before hval0 hW hcnd _
  have hval : ∀ (j : Nat) t v, Try.f10.params[j]? = some t → args[j]? = some v → Value.okWide Try.prog W .any base t v := hval0
  have hW' := hW
  obtain ⟨p, q, hA0, hV, rfl, hfz, hnd⟩ := hW
  have hA : DataW.TrodAll enc Try.prog W 0 (fun _ => true) true Try.f10.params.toList args.toList ds p := hA0
  rw [Try.params10] at hA hval
  obtain ⟨v0, vs0, d0, ds0, p0, q0, hargs, rfl, rfl, h0, r0⟩ := trodAll_cons hA
  obtain ⟨rfl, rfl, rfl⟩ := trodAll_nil r0
  obtain rfl : args = #[v0] := by cases args; simp_all
  clear hA0 hval0
  obtain ⟨a0, rfl, rfl, rfl, wf0⟩ := open_int Try.underlying3 (hval 0 3 v0 rfl rfl) h0
  have ft0 := fits_of_wf wf0
  refine (walk a0 W).mono fun e W' ⟨he, hb⟩ => ?_
  subst he
  exact ⟨_, rfl, post_of_law laidOut rfl Try.underlying4 rfl (by kernel_rfl) (fun ds hds => by
    match ds, hds with
    | [_], _ => exact ⟨rfl, rfl, rfl⟩) hW' hb⟩

theorem over : Rows.fnExactListOfRow.holds Try.pinned (OpenSpec.ofChange Rows.fnExactListOfSpec) :=
  OpenClaim.holds_of_wide 10 Try.f10 rfl rfl rfl rfl rfl rfl rfl ⟨rfl, rfl, rfl, rfl, rfl⟩ rfl rfl rfl rfl rfl (by kernel_rfl) Try.func10 (by kernel_rfl)
    (of_decide_eq_true (by kernel_rfl)) (by unfold Func.isWrapper; first | (rw [if_pos (by decide +kernel)]; kernel_rfl) | (rw [if_neg (by decide +kernel)]; exact ⟨rfl, rfl⟩))
    (fun os started H enc _ => lifted os started H enc)

theorem proved : Rows.FnExactListOfSaid := over
#print axioms proved
end Go.Proofs.Ytbiaddpmohlalaa.fnExactListOf
