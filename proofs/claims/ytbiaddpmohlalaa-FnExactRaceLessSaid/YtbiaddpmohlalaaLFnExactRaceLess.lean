/- The program's RaceLess returns what the reference's RaceLess returns, at every two races: the law FnExactRaceLess returns true. No condition beyond the given statement's own. -/
import Derived.Test.YtbiaddpmohlalaaRace
import Derived.Test.YtbiaddpmohlalaaOpen
set_option linter.unusedSimpArgs false
set_option linter.unusedVariables false
namespace Go.Proofs.Ytbiaddpmohlalaa.fnExactRaceLess
open Go.ChangeShapes Go.WideShapes Go.ChangeAt Go.RowKit


theorem cells_race : Try.prog.cellsOf 30 = 3 := by kernel_rfl
theorem open_race {H : Type} {enc : TypeId × Value → H} {W : World} {sp : Nat → Bool} {held : Bool} {v : Value} {d : DataW H} {p : List MemPlace} {r : Reach} {b : Nat}
    (hv : Value.okWide Try.prog W r b 30 v) (h : DataW.Trod enc Try.prog W 0 sp held 30 v d p) : ∃ x y z : Int, v = .agg #[.int .i64 x, .int .i64 y, .int .i64 z] := by
  obtain ⟨v0, v1, v2, y0, y1, y2, n, rfl, _, _, h0, h1, h2⟩ := Go.Joins.open_agg3 Try.underlying30 (by kernel_rfl) cells_race hv h
  obtain ⟨x, e0, _⟩ := DataW.trod_int Try.underlying3 h0
  obtain ⟨y, e1, _⟩ := DataW.trod_int Try.underlying3 h1
  obtain ⟨z, e2, _⟩ := DataW.trod_int Try.underlying3 h2
  injection e0 with e0
  injection e1 with e1
  injection e2 with e2
  exact ⟨x, y, z, by rw [e0, e1, e2]⟩

/-- The two arguments, laid in two new blocks. -/
def BoxTwo (x y z a b c : Int) (w w' : World) : Prop := Below w.heap.size w w' ∧ w'.cell? ⟨w.heap.size, 0, none⟩ = some (.int .i64 x) ∧ w'.cell? ⟨w.heap.size, 1, none⟩ = some (.int .i64 y) ∧ w'.cell? ⟨w.heap.size, 2, none⟩ = some (.int .i64 z) ∧
      w'.cell? ⟨w.heap.size + 1, 0, none⟩ = some (.int .i64 a) ∧ w'.cell? ⟨w.heap.size + 1, 1, none⟩ = some (.int .i64 b) ∧ w'.cell? ⟨w.heap.size + 1, 2, none⟩ = some (.int .i64 c)
theorem walk (x y z a b c : Int) (w : World) :
    Calls Try.prog 9 #[.agg #[.int .i64 x, .int .i64 y, .int .i64 z], .agg #[.int .i64 a, .int .i64 b, .int .i64 c]] w fun e w' => e = .returned (.bool true) ∧ Below w.heap.size w w' := by
  go_enter Try.func9, Try.ntmps9
  go_wp2_with fail
  have hS : BoxTwo x y z a b c w ((w.alloc (.cells #[.int .i64 x, .int .i64 y, .int .i64 z] 30)).alloc (.cells #[.int .i64 a, .int .i64 b, .int .i64 c] 30)) :=
    ⟨below_alloc (below_alloc0 _ _) (Nat.le_refl _) _, by simp, by simp, by simp, by simp, by simp, by simp⟩
  generalize ((w.alloc (.cells #[.int .i64 x, .int .i64 y, .int .i64 z] 30)).alloc (.cells #[.int .i64 a, .int .i64 b, .int .i64 c] 30)) = W at hS ⊢
  obtain ⟨hb, h0, h1, h2, h3, h4, h5⟩ := hS
  go_region_held3 (fun w' => Below w.heap.size w w' ∧ w'.cell? ⟨w.heap.size, 0, none⟩ = some (.int .i64 x) ∧ w'.cell? ⟨w.heap.size, 1, none⟩ = some (.int .i64 y) ∧ w'.cell? ⟨w.heap.size, 2, none⟩ = some (.int .i64 z) ∧
      w'.cell? ⟨w.heap.size + 1, 0, none⟩ = some (.int .i64 a) ∧ w'.cell? ⟨w.heap.size + 1, 1, none⟩ = some (.int .i64 b) ∧ w'.cell? ⟨w.heap.size + 1, 2, none⟩ = some (.int .i64 c))
    (first | exact ⟨hb.drew, h0, h1, h2, h3, h4, h5⟩ | (go_split_ands; refine ⟨below_trans' (by assumption) hb1, ?_, ?_, ?_, ?_, ?_, ?_⟩ <;> exact cell_below hb1 (by assumption)))
    (first | (go_at_call 27; refine (toRace_any _ _ _ _).mono ?_; rintro e w1 ⟨rfl, hb1⟩) | (go_at_call 26; refine (raceLess_s _ _ _ _ _ _ _).mono ?_; rintro e w1 ⟨rfl, hb1⟩))
  rename_i W1 _ hS
  go_wp2_with fail
  clear hb h0 h1 h2 h3 h4 h5
  obtain ⟨hb, h0, h1, h2, h3, h4, h5⟩ := hS
  go_region_held3 (fun w' => Below w.heap.size w w' ∧ w'.cell? ⟨w.heap.size, 0, none⟩ = some (.int .i64 x) ∧ w'.cell? ⟨w.heap.size, 1, none⟩ = some (.int .i64 y) ∧ w'.cell? ⟨w.heap.size, 2, none⟩ = some (.int .i64 z) ∧
      w'.cell? ⟨w.heap.size + 1, 0, none⟩ = some (.int .i64 a) ∧ w'.cell? ⟨w.heap.size + 1, 1, none⟩ = some (.int .i64 b) ∧ w'.cell? ⟨w.heap.size + 1, 2, none⟩ = some (.int .i64 c))
    (first | exact ⟨hb.drew, h0, h1, h2, h3, h4, h5⟩ | (go_split_ands; refine ⟨below_trans' (by assumption) hb1, ?_, ?_, ?_, ?_, ?_, ?_⟩ <;> exact cell_below hb1 (by assumption)))
    (first | (go_at_call 27; refine (toRace_any _ _ _ _).mono ?_; rintro e w1 ⟨rfl, hb1⟩) | (go_at_call 28; refine (raceLess_i _ _ _ _ _ _ _).mono ?_; rintro e w1 ⟨rfl, hb1⟩))
  rename_i W2 _ hS
  go_wp2_with fail
  go_ret
  exact ⟨rfl, hS.1⟩

set_option maxRecDepth 100000 in
theorem lifted (os : Os) (started : os.Started) (H : Type) (enc : TypeId × Value → H) :
    ReturnsInHanded {} Try.checked os 9 .any (Rows.fnExactRaceLessSpec.pre6 enc Try.prog Try.f9 Rows.fnExactRaceLessRow.domain false) (Rows.fnExactRaceLessSpec.post enc Try.prog Try.f9 false true false false) := by
  refine returnsInHanded_of_change (C := Try.checked) own started (by kernel_rfl) Try.func9
    (ChangeSpec.witness6 (enc := enc) (C := Try.checked) false ⟨#[], #[.agg #[.int .i64 0, .int .i64 0, .int .i64 0], .agg #[.int .i64 0, .int .i64 0, .int .i64 0]], []⟩ 8 (by kernel_rfl) (by kernel_rfl) (by kernel_rfl) (by kernel_rfl)) ?_
  intro W base args ds gs before hval0 hW hcnd _
  have hval : ∀ (j : Nat) t v, Try.f9.params[j]? = some t → args[j]? = some v → Value.okWide Try.prog W .any base t v := hval0
  have hW' := hW
  obtain ⟨p, q, hA0, hV, rfl, hfz, hnd⟩ := hW
  have hA : DataW.TrodAll enc Try.prog W 0 (fun _ => true) true Try.f9.params.toList args.toList ds p := hA0
  rw [Try.params9] at hA hval
  obtain ⟨v0, vs0, d0, ds0, p0, q0, hargs, rfl, rfl, h0, r0⟩ := trodAll_cons hA
  obtain ⟨v1, vs1, d1, ds1, p1, q1, rfl, rfl, rfl, h1, r1⟩ := trodAll_cons r0
  obtain ⟨rfl, rfl, rfl⟩ := trodAll_nil r1
  obtain rfl : args = #[v0, v1] := by cases args; simp_all
  clear hA0 hval0
  obtain ⟨x0, y0, z0, rfl⟩ : ∃ x y z : Int, v0 = .agg #[.int .i64 x, .int .i64 y, .int .i64 z] := open_race (hval 0 30 v0 rfl rfl) h0
  obtain ⟨x1, y1, z1, rfl⟩ : ∃ x y z : Int, v1 = .agg #[.int .i64 x, .int .i64 y, .int .i64 z] := open_race (hval 1 30 v1 rfl rfl) h1
  refine (walk x0 y0 z0 x1 y1 z1 W).mono fun e W' ⟨he, hb⟩ => ?_
  subst he
  exact ⟨_, rfl, post_of_law laidOut rfl Try.underlying4 rfl (by kernel_rfl) (fun ds hds => by
    match ds, hds with
    | [_, _], _ => exact ⟨rfl, rfl, rfl⟩) hW' hb⟩

theorem over : Rows.fnExactRaceLessRow.holds Try.pinned (OpenSpec.ofChange Rows.fnExactRaceLessSpec) :=
  OpenClaim.holds_of_wide 9 Try.f9 rfl rfl rfl rfl rfl rfl rfl ⟨rfl, rfl, rfl, rfl, rfl⟩ rfl rfl rfl rfl rfl (by kernel_rfl) Try.func9 (by kernel_rfl)
    (of_decide_eq_true (by kernel_rfl)) (by unfold Func.isWrapper; first | (rw [if_pos (by decide +kernel)]; kernel_rfl) | (rw [if_neg (by decide +kernel)]; exact ⟨rfl, rfl⟩))
    (fun os started H enc _ => lifted os started H enc)

theorem proved : Rows.FnExactRaceLessSaid := over
#print axioms proved
end Go.Proofs.Ytbiaddpmohlalaa.fnExactRaceLess
