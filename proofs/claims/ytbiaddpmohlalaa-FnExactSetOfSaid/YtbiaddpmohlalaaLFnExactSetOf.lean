/- The program's SetOf returns what the reference's SetOf returns, at every list of ints: the law FnExactSetOf returns true. No condition beyond the given statement's own. -/
import Derived.Test.YtbiaddpmohlalaaSetOf
import Derived.Test.YtbiaddpmohlalaaOpen
set_option linter.unusedSimpArgs false
set_option linter.unusedVariables false
namespace Go.Proofs.Ytbiaddpmohlalaa.fnExactSetOf
open Go.ChangeShapes Go.WideShapes Go.ChangeAt Go.RowKit

theorem walk {B : Nat} (A : Option Addr) (c : Nat) (zs : List Int) (w : World) (h : Rd w B A (zs.map iv)) (hn : zs.length ≤ 9223372036854775807) :
    Calls Try.prog 8 #[.slice A zs.length c] w fun e w' => e = .returned (.bool true) ∧ Below w.heap.size w w' := by
  have h := h.full
  by_cases hl : zs.length ≤ 1048576
  · go_enter Try.func8, Try.ntmps8
    go_wp2_with fail
    refine (toIntS_any _ _ zs _ h (by omega)).mono ?_
    rintro e w1 ⟨A1, c1, rfl, ho1, hb1⟩
    go_wp2_with fail
    refine (setOf_s _ _ zs _ (own_rd ho1) (by omega)).mono ?_
    rintro e w' ⟨rfl, rfl⟩
    go_wp2_with fail
    refine (toIntS_any _ _ zs _ (h.below hb1) (by omega)).mono ?_
    rintro e w2 ⟨A2, c2, rfl, ho2, hb2⟩
    go_wp2_with fail
    refine (setOf_i _ _ zs _ (own_rd ho2) (by omega)).mono ?_
    rintro e w' ⟨rfl, rfl⟩
    go_wp2_with fail
    refine (toIntS_any _ _ zs _ (h.below (below_trans' hb1 hb2)) (by omega)).mono ?_
    rintro e w3 ⟨A3, c3, rfl, ho3, hb3⟩
    go_wp2_with fail
    refine (eqIntS_any _ _ _ _ zs zs _ ((own_rd ho2).below hb3) (own_rd ho3) (by omega) (by omega)).mono ?_
    rintro e w4 ⟨rfl, n, rfl⟩
    rw [decide_eq_true (rfl : zs = zs)]
    go_wp2_with fail
    go_ret
    exact ⟨rfl, below_drewN (below_trans' (below_trans' hb1 hb2) hb3) n⟩
  · go_enter Try.func8, Try.ntmps8
    go_wp2_with fail
    go_ret
    exact ⟨rfl, Below.refl _ _⟩

set_option maxRecDepth 100000 in
theorem lifted (os : Os) (started : os.Started) (H : Type) (enc : TypeId × Value → H) :
    ReturnsInHanded {} Try.checked os 8 .any (Rows.fnExactSetOfSpec.pre6 enc Try.prog Try.f8 Rows.fnExactSetOfRow.domain false) (Rows.fnExactSetOfSpec.post enc Try.prog Try.f8 false true false false) := by
  refine returnsInHanded_of_change (C := Try.checked) own started (by kernel_rfl) Try.func8
    (ChangeSpec.witness6 (enc := enc) (C := Try.checked) false ⟨#[], #[.slice none 0 0], []⟩ 8 (by kernel_rfl) (by kernel_rfl) (by kernel_rfl) (by kernel_rfl)) ?_
  intro W base args ds gs before hval0 hW hcnd _
  have hval : ∀ (j : Nat) t v, Try.f8.params[j]? = some t → args[j]? = some v → Value.okWide Try.prog W .any base t v := hval0
  have hW' := hW
  obtain ⟨p, q, hA0, hV, rfl, hfz, hnd⟩ := hW
  have hA : DataW.TrodAll enc Try.prog W 0 (fun _ => true) true Try.f8.params.toList args.toList ds p := hA0
  rw [Try.params8] at hA hval
  obtain ⟨v0, vs0, d0, ds0, p0, q0, hargs, rfl, rfl, h0, r0⟩ := trodAll_cons hA
  obtain ⟨rfl, rfl, rfl⟩ := trodAll_nil r0
  obtain rfl : args = #[v0] := by cases args; simp_all
  have key : ∃ (A : Option Addr) (c : Nat) (zs : List Int), v0 = .slice A zs.length c ∧ Rd W W.heap.size A (zs.map iv) ∧ zs.length ≤ 9223372036854775807 := by
    obtain ⟨fuel, h0⟩ := h0
    rw [slice_cells Try.underlying24 (hval 0 24 v0 rfl rfl)] at h0
    obtain ⟨A, c, zs, e, hr, hn, _⟩ := rd_ints h0
    injection e with e
    exact ⟨A, c, zs, e, hr, hn⟩
  obtain ⟨A, c, zs, rfl, hr, hn⟩ := key
  refine (walk A c zs W hr hn).mono fun e W' ⟨he, hb⟩ => ?_
  subst he
  exact ⟨_, rfl, post_of_law laidOut rfl Try.underlying4 rfl (by kernel_rfl) (fun ds hds => by
    match ds, hds with
    | [d], _ => exact ⟨rfl, rfl, rfl⟩) hW' hb⟩

theorem over : Rows.fnExactSetOfRow.holds Try.pinned (OpenSpec.ofChange Rows.fnExactSetOfSpec) :=
  OpenClaim.holds_of_wide 8 Try.f8 rfl rfl rfl rfl rfl rfl rfl ⟨rfl, rfl, rfl, rfl, rfl⟩ rfl rfl rfl rfl rfl (by kernel_rfl) Try.func8 (by kernel_rfl)
    (of_decide_eq_true (by kernel_rfl)) (by unfold Func.isWrapper; first | (rw [if_pos (by decide +kernel)]; kernel_rfl) | (rw [if_neg (by decide +kernel)]; exact ⟨rfl, rfl⟩))
    (fun os started H enc _ => lifted os started H enc)

theorem proved : Rows.FnExactSetOfSaid := over
#print axioms proved
end Go.Proofs.Ytbiaddpmohlalaa.fnExactSetOf
