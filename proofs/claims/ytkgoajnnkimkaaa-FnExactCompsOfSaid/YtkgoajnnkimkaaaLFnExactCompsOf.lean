/- The program's CompsOf returns what the reference's CompsOf returns, for all graphs; it leaves its argument as it was, and its answer is new memory: the law FnExactCompsOf returns true. No condition beyond the given statement's own. -/
import Derived.Test.YtkgoajnnkimkaaaKb
import Derived.Test.YtkgoajnnkimkaaaB2
set_option linter.unusedSimpArgs false
set_option linter.unusedVariables false
namespace Go.Proofs.Ytkgoajnnkimkaaa.fnExactCompsOf
open Go.ChangeShapes Go.WideShapes Go.ChangeAt Go.RowKit


set_option maxRecDepth 100000 in
set_option maxHeartbeats 8000000 in
theorem walk (n : Int) (A : Option Addr) (c : Nat) (es : List (Int × Int)) (w : World) (hf : Fits n) (he : Rd w w.heap.size A (arcCells es)) (hn : es.length ≤ 9223372036854775807) :
    Calls Try.prog 3 #[.int .i64 n, .slice A es.length c] w fun e w' => e = .returned (.bool true) ∧ Below w.heap.size w w' := by
  have HSz := Lib.hid (szArcS_any A c es.length 1048576 w hn (by omega))
  obtain ⟨hc60, hcx⟩ := compsOf_small n es
  have HX := Lib.hid hcx
  have HTo := Lib.hid (fun V (hV : Below w.heap.size w V) (hl : es.length ≤ 1048576) => toArcS_any A c es V (he.below hV) hl)
  have HS := Lib.hid (fun V B A' c' (hl : es.length ≤ 1048576) (h : Rd V B A' (arcCells es)) => compsOf_s n A' c' es V h hl hf)
  have HI := Lib.hid (fun V B A' c' (hl : es.length ≤ 1048576) (h : Rd V B A' (arcCells es)) => compsOf_i n A' c' es V h hl hf)
  have HSM := Lib.hid (show ∀ j, j ≤ (compsOfN n es).length → offs (compsOfN n es) j ≤ 60 * j from fun j hj => offs_le hcx j hj)
  clear hcx hn he hf
  generalize compsOfN n es = cs at *
  go_enter Try.func3, Try.ntmps3
  go_wp2_with fail
  refine HSz.out.mono ?_
  rintro e w1 ⟨hb1, rfl | ⟨r1, rfl, hr1, hl1⟩⟩
  · go_wp2_with fail
    go_ret
    exact ⟨rfl, hb1⟩
  have hl : es.length ≤ 1048576 := by omega
  have hn1 : ¬ ((r1 : Int) < 0) := by omega
  clear HSz
  go_wp2_with fail
  refine (HTo.out _ hb1 hl).mono ?_
  rintro e w2 ⟨A2, c2, rfl, ho2, hb2⟩
  have hb02 := below_trans' hb1 hb2
  go_wp2_with fail
  refine (HS.out _ _ A2 c2 hl (own_rd ho2)).mono ?_
  rintro e w3 ⟨A3, c3, rr3, rfl, hI3, hb3⟩
  have hb03 := below_trans' hb02 hb3
  clear hb1 hb2 hb02 ho2 hb3
  go_wp2_with fail
  refine (HTo.out _ hb03 hl).mono ?_
  rintro e w4 ⟨A4, c4, rfl, ho4, hb4⟩
  go_wp2_with fail
  refine (HI.out _ _ A4 c4 hl (own_rd ho4)).mono ?_
  rintro e w5 ⟨A5, c5, rr5, rfl, hI5, hb5⟩
  have h35 := below_trans' hb4 hb5
  go_wp2_with fail
  refine (eqIntSS_same A5 A3 c5 c3 rr5 rr3 cs _ hI5 (hI3.below h35) hc60 HX.out).mono ?_
  rintro e w6 ⟨rfl, hb6⟩
  have h56 := hb6
  have h36 := below_trans' h35 hb6
  go_wp2_with fail
  refine (HTo.out _ (below_trans' hb03 h36) hl).mono ?_
  rintro e w7 ⟨A7, c7, rfl, ho7, hb7⟩
  have h37 := below_trans' h36 hb7
  have h57 := below_trans' h56 hb7
  have ho47 := own_below (own_below ho4 hb5) h57
  go_wp2_with fail
  refine (eqArcS_any A4 A7 c4 c7 es _ (own_rd ho47) (own_rd ho7) hl).mono ?_
  rintro e w8 ⟨rfl, hb8⟩
  have h38 := below_trans' h37 hb8
  have h58 := below_trans' h57 hb8
  have ho48 := own_below ho47 hb8
  have hI58 := hI5.below h58
  have hA5 : Apt (.slice A5 cs.length c5) (.slice A4 es.length c4) := Apt.fresh hI5.l.f ho4 (Nat.le_refl _)
  have hA5r : ∀ p ∈ rr5, Apt (rowV p) (.slice A4 es.length c4) := fun p hp => by
    obtain ⟨i, hi, rfl⟩ := List.getElem_of_mem hp
    exact Apt.fresh (hI5.l.r i hi) ho4 (Nat.le_refl _)
  have h45 := hb5.size
  have h34 := hb4.size
  have hs38 := h38.size
  have hs58 := h58.size
  clear h35 h36 h37 hb4 hb5 hb6 h56 hb7 h57 ho47 ho7 hb8 h58 ho4 hI5
  go_wp2_with fail
  refine (markArcS_any A4 c4 es.length 1 _ _ ho48 hl (by omega)).mono ?_
  rintro e w9 ⟨rfl, ho9, hg9⟩
  have h39 : Below w3.heap.size w3 w9 := h38.grown hg9 hs38 fun k hk => (ho48.lt k hk).1
  have hI9 := hI58.kept hg9 hA5 hA5r
  have hs89 := hg9.size
  have hm1 : ¬ (((1 + es.length * 2 : Nat) : Int) < 0) := by omega
  clear hA5 hA5r h38 ho48 hI58 ho9 hg9
  go_wp2_with fail
  refine (eqIntSS_same A5 A3 c5 c3 rr5 rr3 cs _ hI9 (hI3.below h39) hc60 HX.out).mono ?_
  rintro e w10 ⟨rfl, hb10⟩
  have h310 := below_trans' h39 hb10
  have hI10 := hI9.below hb10
  have hs10 := hb10.size
  clear h39 hb10 hI9
  go_wp2_with fail
  refine (markIntSS_any A5 c5 1 rr5 cs _ hI10 hc60 HX.out (by omega) (by omega)).mono ?_
  rintro e w11 ⟨rfl, ⟨rr11, hI11⟩, hb11, hs11⟩
  have h311 : Below w3.heap.size w3 w11 := h310.trans (hb11.mono h34)
  have hoff := HSM.out cs.length (Nat.le_refl _)
  clear h310 hb11 hI10
  generalize hmm : 1 + offs cs cs.length = mm
  have hmp : ¬ ((mm : Int) < 0) := by omega
  have hmn : ((mm : Int) != (mm : Int)) = false := by simp
  have HMM := Lib.hid hmm
  clear hmm
  have hH := heldIntSS_any A5 c5 1 rr11 cs w11 hI11 hc60 HX.out (by omega)
  rw [HMM.out] at hH
  have HH := Lib.hid hH
  clear hH
  go_wp2_with fail
  refine HH.out.mono ?_
  clear HH
  rintro e w12 ⟨rfl, hb12⟩
  have h312 := below_trans' h311 hb12
  have hI12 := hI11.below hb12
  clear h311 hb12 hI11
  go_wp2_with fail
  refine (HTo.out _ (below_trans' hb03 h312) hl).mono ?_
  rintro e w13 ⟨A13, c13, rfl, ho13, hb13⟩
  go_wp2_with fail
  refine (HI.out _ _ A13 c13 hl (own_rd ho13)).mono ?_
  rintro e w14 ⟨A14, c14, rr14, rfl, hI14, hb14⟩
  have h1214 := below_trans' hb13 hb14
  have h314 := below_trans' h312 h1214
  clear hb13 hb14 ho13
  go_wp2_with fail
  refine (eqIntSS_same A14 A3 c14 c3 rr14 rr3 cs _ hI14 (hI3.below h314) hc60 HX.out).mono ?_
  rintro e w15 ⟨rfl, hb15⟩
  have h315 := below_trans' h314 hb15
  have hH := heldIntSS_any A5 c5 1 rr11 cs w15 (hI12.below (below_trans' h1214 hb15)) hc60 HX.out (by omega)
  rw [HMM.out] at hH
  have HH := Lib.hid hH
  clear hH hI14 hI12 hb15 h314 h1214
  go_wp2_with fail
  refine HH.out.mono ?_
  rintro e w16 ⟨rfl, hb16⟩
  go_wp2_with fail
  go_ret
  exact ⟨rfl, below_trans' hb03 (below_trans' h315 hb16)⟩

set_option maxRecDepth 100000 in
theorem lifted (os : Os) (started : os.Started) (H : Type) (enc : TypeId × Value → H) :
    ReturnsInHanded {} Try.checked os 3 .any (Rows.fnExactCompsOfSpec.pre6 enc Try.prog Try.f3 Rows.fnExactCompsOfRow.domain false) (Rows.fnExactCompsOfSpec.post enc Try.prog Try.f3 false true false false) := by
  refine returnsInHanded_of_change (C := Try.checked) own started (by kernel_rfl) Try.func3
    (ChangeSpec.witness6 (enc := enc) (C := Try.checked) false ⟨#[], #[.int .i64 0, .slice none 0 0], []⟩ 8 (by kernel_rfl) (by kernel_rfl) (by kernel_rfl) (by kernel_rfl)) ?_
  intro W base args ds gs before hval0 hW hcnd _
  have hval : ∀ (j : Nat) t v, Try.f3.params[j]? = some t → args[j]? = some v → Value.okWide Try.prog W .any base t v := hval0
  have hW' := hW
  obtain ⟨p, q, hA0, hV, rfl, hfz, hnd⟩ := hW
  have hA : DataW.TrodAll enc Try.prog W 0 (fun _ => true) true Try.f3.params.toList args.toList ds p := hA0
  rw [Try.params3] at hA hval
  obtain ⟨v0, vs0, d0, ds0, p0, q0, hargs, rfl, rfl, h0, r0⟩ := trodAll_cons hA
  obtain ⟨v1, vs1, d1, ds1, p1, q1, rfl, rfl, rfl, h1, r1⟩ := trodAll_cons r0
  obtain ⟨rfl, rfl, rfl⟩ := trodAll_nil r1
  obtain rfl : args = #[v0, v1] := by cases args; simp_all
  clear hA0 hval0
  obtain ⟨a0, rfl, rfl, rfl, wf0⟩ := open_int Try.underlying3 (hval 0 3 v0 rfl rfl) h0
  have ft0 := fits_of_wf wf0
  have key1 : ∃ (A : Option Addr) (c : Nat) (es : List (Int × Int)), v1 = .slice A es.length c ∧ Rd W W.heap.size A (arcCells es) ∧ es.length ≤ 9223372036854775807 := by
    obtain ⟨fuel, h1⟩ := h1
    rw [slice_cells Try.underlying22 (hval 1 22 v1 rfl rfl)] at h1
    obtain ⟨A, c, es, e, hr, hn⟩ := arcs_open h1
    injection e with e
    exact ⟨A, c, es, e, hr, hn⟩
  obtain ⟨A1, c1, es1, rfl, hr1, hn1⟩ := key1
  refine (walk a0 A1 c1 es1 W ft0 hr1 hn1).mono fun e W' ⟨he, hb⟩ => ?_
  subst he
  exact ⟨_, rfl, post_of_law laidOut rfl Try.underlying4 rfl (by kernel_rfl) (fun ds hds => by
    match ds, hds with
    | [_, _], _ => exact ⟨rfl, rfl, rfl⟩) hW' hb⟩

theorem over : Rows.fnExactCompsOfRow.holds Try.pinned (OpenSpec.ofChange Rows.fnExactCompsOfSpec) :=
  OpenClaim.holds_of_wide 3 Try.f3 rfl rfl rfl rfl rfl rfl rfl ⟨rfl, rfl, rfl, rfl, rfl⟩ rfl rfl rfl rfl rfl (by kernel_rfl) Try.func3 (by kernel_rfl)
    (of_decide_eq_true (by kernel_rfl)) (by unfold Func.isWrapper; first | (rw [if_pos (by decide +kernel)]; kernel_rfl) | (rw [if_neg (by decide +kernel)]; exact ⟨rfl, rfl⟩))
    (fun os started H enc _ => lifted os started H enc)

theorem proved : Rows.FnExactCompsOfSaid := over
#print axioms proved
end Go.Proofs.Ytkgoajnnkimkaaa.fnExactCompsOf
