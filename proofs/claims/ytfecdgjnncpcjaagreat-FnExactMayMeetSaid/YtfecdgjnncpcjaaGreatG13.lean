/- Contract of Beside of the reference. -/
import Derived.Test.YtfecdgjnncpcjaaGreatG12
set_option linter.unusedSimpArgs false
set_option linter.unusedVariables false
namespace Go.Proofs.YtfecdgjnncpcjaaGreat
open Go.ChangeShapes Go.WideShapes Go.ChangeAt Go.RowKit

theorem beside_tab {k : Cd} {a b : Nat} (ha : LiveA k a) (hb : LiveA k b) : BesideP k a b ↔ TabP k (procN k a) (procN k b) :=
  ⟨fun ⟨r, s, h1, h2, h3⟩ => ⟨r, s, h1.2.1, h2.2.1, h1.2.2, h2.2.2, h3⟩, fun ⟨r, s, h1, h2, h3, h4, h5⟩ => ⟨r, s, ⟨ha, h1, h3⟩, ⟨hb, h2, h4⟩, h5⟩⟩
open Classical in
theorem besB_no {k : Cd} {a b : Nat} (h : ¬ BesideP k a b) : besideB k a b = false := by unfold besideB; exact decide_eq_false h
open Classical in
theorem besB_yes {k : Cd} {a b : Nat} (h : BesideP k a b) : besideB k a b = true := by unfold besideB; exact decide_eq_true h
theorem at_none {k : Cd} (hr : Right k) {a : Nat} (h : (listN k.procs.length (AtP k a)).length = 0) (r : Nat) : ¬ AtP k a r := fun hA => by
  have h1 : r ∈ listN k.procs.length (AtP k a) := mem_listN.2 ⟨at_lt hr hA, hA⟩
  rw [List.eq_nil_of_length_eq_zero h] at h1
  simp at h1
theorem at_live {k : Cd} {a : Nat} (h : (listN k.procs.length (AtP k a)).length ≠ 0) : LiveA k a := by
  cases hl : listN k.procs.length (AtP k a) with
  | nil => rw [hl] at h; simp at h
  | cons r l =>
    have h1 : r ∈ listN k.procs.length (AtP k a) := by rw [hl]; simp
    exact (mem_listN.1 h1).2.1

set_option maxRecDepth 100000 in
set_option maxHeartbeats 4000000 in
theorem beside_s {B L : Nat} (v : CV) (k : Cd) (x y : Int) (w : World) (hk : CodeAt w B v k) (hcb : CdB L k) (hL : L ≤ 1048576) :
    Calls Tryz.prog 42 #[.agg #[.slice v.gA k.globals.length v.gc, .slice v.lA k.locks.length v.lc, .slice v.pA k.procs.length v.pc, .slice v.eA k.entry.length v.ec, .slice v.iA k.ins.length v.ic], .int .i64 x, .int .i64 y] w (fun e w' => e = .returned (.bool (besideA k x y)) ∧ Below w.heap.size w w') := by
  have hkf := hk.full
  have hbx := codeBox w v k
  have hpl0 := hcb.procs
  have hil0 := hcb.ins
  have HGX := Lib.hid (fun W (h : CodeAt W w.heap.size v k) => l09At_any v k x W h hcb (by omega))
  have HGY := Lib.hid (fun W (h : CodeAt W w.heap.size v k) => l09At_any v k y W h hcb (by omega))
  cases hx : (codeOkI k && (decide (0 ≤ x) && decide (x < k.ins.length)))
  · have HZ := Lib.hid (show besideA k x y = false from by unfold besideA; rw [hx]; simp)
    rw [hx] at HGX
    clear hx hk hcb
    go_enter Tryz.func42, Tryz.ntmps42
    go_wp2_with fail
    generalize w.alloc (.cells #[.slice v.gA k.globals.length v.gc, .slice v.lA k.locks.length v.lc, .slice v.pA k.procs.length v.pc, .slice v.eA k.entry.length v.ec, .slice v.iA k.ins.length v.ic] 33) = W at hbx ⊢
    refine (HGX.out _ (hkf.below hbx.1)).mono ?_
    rintro e w1 ⟨rfl, hb1⟩
    go_wp2_with fail
    go_ret
    exact ⟨ret_bool HZ.out.symm, below_trans' hbx.1 hb1⟩
  · rw [hx] at HGX
    cases hy : (codeOkI k && (decide (0 ≤ y) && decide (y < k.ins.length)))
    · have HZ := Lib.hid (show besideA k x y = false from by
        have h1 : codeOkI k = true := (Bool.and_eq_true_iff.1 hx).1
        rw [h1, Bool.true_and] at hy
        unfold besideA; rw [hy]; simp)
      rw [hy] at HGY
      clear hx hy hk hcb
      go_enter Tryz.func42, Tryz.ntmps42
      go_wp2_with fail
      generalize w.alloc (.cells #[.slice v.gA k.globals.length v.gc, .slice v.lA k.locks.length v.lc, .slice v.pA k.procs.length v.pc, .slice v.eA k.entry.length v.ec, .slice v.iA k.ins.length v.ic] 33) = W at hbx ⊢
      refine (HGX.out _ (hkf.below hbx.1)).mono ?_
      rintro e w1 ⟨rfl, hb1⟩
      have hbx1 := hbx.to hb1
      obtain ⟨q1, q2, c0, c1, c2, c3, c4⟩ := id hbx1
      go_wp2_with fail
      refine (HGY.out _ (hkf.below hbx1.1)).mono ?_
      rintro e w2 ⟨rfl, hb2⟩
      have hbx2 := hbx1.to hb2
      clear q1 q2 c0 c1 c2 c3 c4
      obtain ⟨q1, q2, c0, c1, c2, c3, c4⟩ := id hbx2
      go_wp2_with fail
      go_ret
      exact ⟨ret_bool HZ.out.symm, hbx2.1⟩
    · rw [hy] at HGY
      obtain ⟨hok, a, rfl, hal⟩ : codeOkI k = true ∧ ∃ a : Nat, x = a ∧ a < k.ins.length := by
        simp only [Bool.and_eq_true, decide_eq_true_eq] at hx
        exact ⟨hx.1, x.toNat, by omega, by omega⟩
      obtain ⟨b, rfl, hbl⟩ : ∃ b : Nat, y = b ∧ b < k.ins.length := by
        simp only [Bool.and_eq_true, decide_eq_true_eq] at hy
        exact ⟨y.toNat, by omega, by omega⟩
      have hr := right_of hok
      have HBA := Lib.hid (show besideA k a b = besideB k a b from by
        unfold besideA
        rw [if_pos (by simp [hok]; exact ⟨hal, hbl⟩), Int.toNat_natCast, Int.toNat_natCast])
      have HRA := Lib.hid (fun a W (h : CodeAt W w.heap.size v k) (ha : a < k.ins.length) => l14RootsAt_any v k a W hr h ha)
      have HRA := Lib.hid (show ∀ (a : {a : Nat // a < k.ins.length}) W (h : CodeAt W w.heap.size v k), Calls Tryz.prog 70 #[.agg #[.slice v.gA k.globals.length v.gc, .slice v.lA k.locks.length v.lc, .slice v.pA k.procs.length v.pc, .slice v.eA k.entry.length v.ec, .slice v.iA k.ins.length v.ic], .int .i64 a.1] W (NewNats W (listN k.procs.length (AtP k a.1))) from fun a W h => HRA.out a.1 W h a.2)
      have hpa := (hr.proc a hal).1
      have hpb := (hr.proc b hbl).1
      have hpl := hr.procs
      have hna := listN_len k.procs.length (AtP k a)
      have hnb := listN_len k.procs.length (AtP k b)
      have HTB := Lib.hid (fun W (hb : Below w.heap.size w W) => l14Table_any v k W hr (hkf.below hb) hcb hL)
      have HPR := Lib.hid (fun a (ha : a < k.ins.length) W (hb : Below w.heap.size w W) => l08Proc_right v k a W hr (hkf.below hb) ha)
      have HR := Lib.hid hr
      clear hx hy hk hcb hok hr
      by_cases hla : (listN k.procs.length (AtP k a)).length = 0
      · have HZ := Lib.hid (show besideA k a b = false from by
          rw [HBA.out]
          exact besB_no fun ⟨r, s, h1, _⟩ => at_none HR.out hla r h1)
        have e0 : (((listN k.procs.length (AtP k a)).length : Int) == 0) = true := by rw [hla]; rfl
        clear hla
        generalize hLA : (listN k.procs.length (AtP k a)).length = la at *
        have HLA := Lib.hid hLA
        clear hLA
        go_enter Tryz.func42, Tryz.ntmps42
        go_wp2_with fail
        generalize w.alloc (.cells #[.slice v.gA k.globals.length v.gc, .slice v.lA k.locks.length v.lc, .slice v.pA k.procs.length v.pc, .slice v.eA k.entry.length v.ec, .slice v.iA k.ins.length v.ic] 33) = W at hbx ⊢
        refine (HGX.out _ (hkf.below hbx.1)).mono ?_
        rintro e w1 ⟨rfl, hb1⟩
        have hbx1 := hbx.to hb1
        obtain ⟨q1, q2, c0, c1, c2, c3, c4⟩ := id hbx1
        go_wp2_with fail
        refine (HGY.out _ (hkf.below hbx1.1)).mono ?_
        rintro e w2 ⟨rfl, hb2⟩
        have hbx2 := hbx1.to hb2
        clear q1 q2 c0 c1 c2 c3 c4
        obtain ⟨q1, q2, c0, c1, c2, c3, c4⟩ := id hbx2
        go_wp2_with fail
        refine (HRA.out ⟨a, hal⟩ _ (hkf.below hbx2.1)).mono ?_
        rintro e w3 ⟨A3, cc3, rfl, ho3, hb3⟩
        rw [HLA.out]
        have hbx3 := hbx2.to hb3
        clear q1 q2 c0 c1 c2 c3 c4 ho3
        obtain ⟨q1, q2, c0, c1, c2, c3, c4⟩ := id hbx3
        go_wp2_with fail
        go_ret
        exact ⟨ret_bool HZ.out.symm, hbx3.1⟩
      · have e0 : (((listN k.procs.length (AtP k a)).length : Int) == 0) = false := by rw [beq_eq_false_iff_ne]; omega
        have HLVA := Lib.hid (at_live hla)
        clear hla
        generalize hLA : (listN k.procs.length (AtP k a)).length = la at *
        have HLA := Lib.hid hLA
        clear hLA
        by_cases hlb : (listN k.procs.length (AtP k b)).length = 0
        · have HZ := Lib.hid (show besideA k a b = false from by
            rw [HBA.out]
            exact besB_no fun ⟨r, s, _, h1, _⟩ => at_none HR.out hlb s h1)
          have e1 : (((listN k.procs.length (AtP k b)).length : Int) == 0) = true := by rw [hlb]; rfl
          clear hlb
          generalize hLB : (listN k.procs.length (AtP k b)).length = lb at *
          have HLB := Lib.hid hLB
          clear hLB
          go_enter Tryz.func42, Tryz.ntmps42
          go_wp2_with fail
          generalize w.alloc (.cells #[.slice v.gA k.globals.length v.gc, .slice v.lA k.locks.length v.lc, .slice v.pA k.procs.length v.pc, .slice v.eA k.entry.length v.ec, .slice v.iA k.ins.length v.ic] 33) = W at hbx ⊢
          refine (HGX.out _ (hkf.below hbx.1)).mono ?_
          rintro e w1 ⟨rfl, hb1⟩
          have hbx1 := hbx.to hb1
          obtain ⟨q1, q2, c0, c1, c2, c3, c4⟩ := id hbx1
          go_wp2_with fail
          refine (HGY.out _ (hkf.below hbx1.1)).mono ?_
          rintro e w2 ⟨rfl, hb2⟩
          have hbx2 := hbx1.to hb2
          clear q1 q2 c0 c1 c2 c3 c4
          obtain ⟨q1, q2, c0, c1, c2, c3, c4⟩ := id hbx2
          go_wp2_with fail
          refine (HRA.out ⟨a, hal⟩ _ (hkf.below hbx2.1)).mono ?_
          rintro e w3 ⟨A3, cc3, rfl, ho3, hb3⟩
          rw [HLA.out]
          have hbx3 := hbx2.to hb3
          clear q1 q2 c0 c1 c2 c3 c4 ho3
          obtain ⟨q1, q2, c0, c1, c2, c3, c4⟩ := id hbx3
          go_wp2_with fail
          refine (HRA.out ⟨b, hbl⟩ _ (hkf.below hbx3.1)).mono ?_
          rintro e w4 ⟨A4, cc4, rfl, ho4, hb4⟩
          rw [HLB.out]
          have hbx4 := hbx3.to hb4
          clear q1 q2 c0 c1 c2 c3 c4 ho4
          obtain ⟨q1, q2, c0, c1, c2, c3, c4⟩ := id hbx4
          go_wp2_with fail
          go_ret
          exact ⟨ret_bool HZ.out.symm, hbx4.1⟩
        · have e1 : (((listN k.procs.length (AtP k b)).length : Int) == 0) = false := by rw [beq_eq_false_iff_ne]; omega
          have HLVB := Lib.hid (at_live hlb)
          clear hlb
          generalize hLB : (listN k.procs.length (AtP k b)).length = lb at *
          have HLB := Lib.hid hLB
          clear hLB
          have y1 : (0 : Int) ≤ (procN k a : Int) := by omega
          have y2 : (procN k a : Int) < (k.procs.length : Int) := by omega
          have y3 : (0 : Int) ≤ (procN k b : Int) := by omega
          have y4 : (procN k b : Int) < (k.procs.length : Int) := by omega
          obtain ⟨res, hres⟩ : ∃ res, res = besideA k a b := ⟨_, rfl⟩
          have HF := Lib.hid (show besideA k a b = res from hres.symm)
          have hmk : mkd (markL k.procs.length (TabP k (procN k a))) (procN k b) = res := by
            rw [hres, HBA.out]
            by_cases ht : TabP k (procN k a) (procN k b)
            · rw [mkd_markL_pos hpb ht, besB_yes ((beside_tab HLVA.out HLVB.out).2 ht)]
            · rw [mkd_markL_neg ht, besB_no fun h => ht ((beside_tab HLVA.out HLVB.out).1 h)]
          have HMK := Lib.hid hmk
          clear hmk hres
          go_enter Tryz.func42, Tryz.ntmps42
          go_wp2_with fail
          generalize w.alloc (.cells #[.slice v.gA k.globals.length v.gc, .slice v.lA k.locks.length v.lc, .slice v.pA k.procs.length v.pc, .slice v.eA k.entry.length v.ec, .slice v.iA k.ins.length v.ic] 33) = W at hbx ⊢
          refine (HGX.out _ (hkf.below hbx.1)).mono ?_
          rintro e w1 ⟨rfl, hb1⟩
          have hbx1 := hbx.to hb1
          obtain ⟨q1, q2, c0, c1, c2, c3, c4⟩ := id hbx1
          go_wp2_with fail
          refine (HGY.out _ (hkf.below hbx1.1)).mono ?_
          rintro e w2 ⟨rfl, hb2⟩
          have hbx2 := hbx1.to hb2
          clear q1 q2 c0 c1 c2 c3 c4
          obtain ⟨q1, q2, c0, c1, c2, c3, c4⟩ := id hbx2
          go_wp2_with fail
          refine (HRA.out ⟨a, hal⟩ _ (hkf.below hbx2.1)).mono ?_
          rintro e w3 ⟨A3, cc3, rfl, ho3, hb3⟩
          rw [HLA.out]
          have hbx3 := hbx2.to hb3
          clear q1 q2 c0 c1 c2 c3 c4 ho3
          obtain ⟨q1, q2, c0, c1, c2, c3, c4⟩ := id hbx3
          go_wp2_with fail
          refine (HRA.out ⟨b, hbl⟩ _ (hkf.below hbx3.1)).mono ?_
          rintro e w4 ⟨A4, cc4, rfl, ho4, hb4⟩
          rw [HLB.out]
          have hbx4 := hbx3.to hb4
          clear q1 q2 c0 c1 c2 c3 c4 ho4
          obtain ⟨q1, q2, c0, c1, c2, c3, c4⟩ := id hbx4
          go_wp2_with fail
          obtain ⟨w5, rfl⟩ : ∃ w5 : World, w5 = w4 := ⟨_, rfl⟩
          have hb05 := hbx4.1
          refine wp_region_held_drew (S := fun w' => Below w5.heap.size w5 w') (by kernel_rfl) ((Below.refl _ _).drew) (fun hHeld => ?_)
          first | (refine hand_skip (i := 0) rfl (by kernel_rfl) (by kernel_rfl) (by kernel_rfl) (fun _ _ _ h => h) (by rfl) (by assumption) ?_) | (refine hand_run (i := 0) (v := ?_) rfl (by kernel_rfl) (by kernel_rfl) (by kernel_rfl) (fun _ _ _ h => h) (by rfl) ?_ (by assumption) ?_; rotate_left; (intro W hW; have f0 := cell_below hW c0; have f1 := cell_below hW c1; have f2 := cell_below hW c2; have f3 := cell_below hW c3; have f4 := cell_below hW c4; first | (go_simp; done) | (go_simp; with_reducible rfl)))
          (try simp only [Act.put, List.setIfInBounds_toArray, List.set_cons_zero, List.set_cons_succ])
          first | (refine hand_skip (i := 2) rfl (by kernel_rfl) (by kernel_rfl) (by kernel_rfl) (fun _ _ _ h => h) (by rfl) (by assumption) ?_) | (refine hand_run (i := 2) (v := ?_) rfl (by kernel_rfl) (by kernel_rfl) (by kernel_rfl) (fun _ _ _ h => h) (by rfl) ?_ (by assumption) ?_; rotate_left; (intro W hW; have f0 := cell_below hW c0; have f1 := cell_below hW c1; have f2 := cell_below hW c2; have f3 := cell_below hW c3; have f4 := cell_below hW c4; first | (go_simp; done) | (go_simp; with_reducible rfl)))
          (try simp only [Act.put, List.setIfInBounds_toArray, List.set_cons_zero, List.set_cons_succ])
          first | (refine hand_skip (i := 3) rfl (by kernel_rfl) (by kernel_rfl) (by kernel_rfl) (fun _ _ _ h => h) (by rfl) (by assumption) ?_) | (refine hand_run (i := 3) (v := ?_) rfl (by kernel_rfl) (by kernel_rfl) (by kernel_rfl) (fun _ _ _ h => h) (by rfl) ?_ (by assumption) ?_; rotate_left; (intro W hW; have f0 := cell_below hW c0; have f1 := cell_below hW c1; have f2 := cell_below hW c2; have f3 := cell_below hW c3; have f4 := cell_below hW c4; first | (go_simp; done) | (go_simp; with_reducible rfl)))
          (try simp only [Act.put, List.setIfInBounds_toArray, List.set_cons_zero, List.set_cons_succ])
          first | (refine hand_skip (i := 7) rfl (by kernel_rfl) (by kernel_rfl) (by kernel_rfl) (fun _ _ _ h => h) (by rfl) (by assumption) ?_) | (refine hand_run (i := 7) (v := ?_) rfl (by kernel_rfl) (by kernel_rfl) (by kernel_rfl) (fun _ _ _ h => h) (by rfl) ?_ (by assumption) ?_; rotate_left; (intro W hW; have f0 := cell_below hW c0; have f1 := cell_below hW c1; have f2 := cell_below hW c2; have f3 := cell_below hW c3; have f4 := cell_below hW c4; first | (go_simp; done) | (go_simp; with_reducible rfl)))
          (try simp only [Act.put, List.setIfInBounds_toArray, List.set_cons_zero, List.set_cons_succ])
          first | (refine hand_skip (i := 8) rfl (by kernel_rfl) (by kernel_rfl) (by kernel_rfl) (fun _ _ _ h => h) (by rfl) (by assumption) ?_) | (refine hand_run (i := 8) (v := ?_) rfl (by kernel_rfl) (by kernel_rfl) (by kernel_rfl) (fun _ _ _ h => h) (by rfl) ?_ (by assumption) ?_; rotate_left; (intro W hW; have f0 := cell_below hW c0; have f1 := cell_below hW c1; have f2 := cell_below hW c2; have f3 := cell_below hW c3; have f4 := cell_below hW c4; first | (go_simp; done) | (go_simp; with_reducible rfl)))
          (try simp only [Act.put, List.setIfInBounds_toArray, List.set_cons_zero, List.set_cons_succ])
          refine hand_one (i := 1) rfl (by kernel_rfl) (fun K hK => ?_)
          refine q_yes (by rfl) ?_
          go_simp
          refine (HTB.out _ (below_trans' hb05 hHeld)).mono ?_
          rintro e wt ⟨At, ct, fr, rfl, hfl, hRR, hbt⟩
          obtain ⟨adT, rfl⟩ := hRR.some_ hfl.symm (by omega)
          obtain ⟨ad1, c1', hcr, hcm⟩ := hRR.read hfl.symm (i := procN k a) (j := procN k b) (by omega) hpb
          rw [HMK.out] at hcm
          clear hfl hRR
          refine hK.out _ _ (below_trans' hHeld hbt) (fun hHeld => ?_)
          clear hK K
          (try simp only [Act.put, List.setIfInBounds_toArray, List.set_cons_zero, List.set_cons_succ])
          refine hand_one (i := 4) rfl (by kernel_rfl) (fun K hK => ?_)
          refine q_yes (by rfl) ?_
          go_simp
          refine (HPR.out a hal _ (below_trans' hb05 hHeld)).mono ?_
          rintro e wp ⟨rfl, hbp⟩
          try have hcr := cell_below hbp hcr
          try have hcm := cell_below hbp hcm
          refine hK.out _ _ (below_trans' hHeld hbp) (fun hHeld => ?_)
          clear hK K
          (try simp only [Act.put, List.setIfInBounds_toArray, List.set_cons_zero, List.set_cons_succ])
          first | (refine hand_skip (i := 5) rfl (by kernel_rfl) (by kernel_rfl) (by kernel_rfl) (fun _ _ _ h => h) (by rfl) (by assumption) ?_) | (refine hand_run (i := 5) (v := ?_) rfl (by kernel_rfl) (by kernel_rfl) (by kernel_rfl) (fun _ _ _ h => h) (by rfl) ?_ (by assumption) ?_; rotate_left; (intro W hW; have f0 := cell_below hW c0; have f1 := cell_below hW c1; have f2 := cell_below hW c2; have f3 := cell_below hW c3; have f4 := cell_below hW c4; first | (go_simp; done) | (go_simp; with_reducible rfl)))
          (try simp only [Act.put, List.setIfInBounds_toArray, List.set_cons_zero, List.set_cons_succ])
          refine hand_two (i := 6) (j := 9) rfl rfl (by kernel_rfl) (fun K hK => ?_) (fun K hK => ?_) 
          · refine q_yes (by rfl) ?_
            go_simp
            skip
            refine hK.out _ _ (hHeld) (fun hHeld => ?_)
            clear hK K
            (try simp only [Act.put, List.setIfInBounds_toArray, List.set_cons_zero, List.set_cons_succ])
            refine hand_one (i := 9) rfl (by kernel_rfl) (fun K hK => ?_)
            refine q_yes (by rfl) ?_
            go_simp
            refine (HPR.out b hbl _ (below_trans' hb05 hHeld)).mono ?_
            rintro e wq ⟨rfl, hbq⟩
            try have hcr := cell_below hbq hcr
            try have hcm := cell_below hbq hcm
            refine hK.out _ _ (below_trans' hHeld hbq) (fun hHeld => ?_)
            clear hK K
            (try simp only [Act.put, List.setIfInBounds_toArray, List.set_cons_zero, List.set_cons_succ])
            first | (refine hand_skip (i := 10) rfl (by kernel_rfl) (by kernel_rfl) (by kernel_rfl) (fun _ _ _ h => h) (by rfl) (by assumption) ?_) | (refine hand_run (i := 10) (v := ?_) rfl (by kernel_rfl) (by kernel_rfl) (by kernel_rfl) (fun _ _ _ h => h) (by rfl) ?_ (by assumption) ?_; rotate_left; (intro W hW; have f0 := cell_below hW c0; have f1 := cell_below hW c1; have f2 := cell_below hW c2; have f3 := cell_below hW c3; have f4 := cell_below hW c4; first | (go_simp; done) | (go_simp; with_reducible rfl)))
            (try simp only [Act.put, List.setIfInBounds_toArray, List.set_cons_zero, List.set_cons_succ])
            refine hand_one (i := 11) rfl (by kernel_rfl) (fun K hK => ?_)
            refine q_yes (by rfl) ?_
            go_simp
            skip
            refine hK.out _ _ (hHeld) (fun hHeld => ?_)
            clear hK K
            (try simp only [Act.put, List.setIfInBounds_toArray, List.set_cons_zero, List.set_cons_succ])
            first | (refine hand_skip (i := 12) rfl (by kernel_rfl) (by kernel_rfl) (by kernel_rfl) (fun _ _ _ h => h) (by rfl) (by assumption) ?_) | (refine hand_run (i := 12) (v := ?_) rfl (by kernel_rfl) (by kernel_rfl) (by kernel_rfl) (fun _ _ _ h => h) (by rfl) ?_ (by assumption) ?_; rotate_left; (intro W hW; have f0 := cell_below hW c0; have f1 := cell_below hW c1; have f2 := cell_below hW c2; have f3 := cell_below hW c3; have f4 := cell_below hW c4; first | (go_simp; done) | (go_simp; with_reducible rfl)))
            (try simp only [Act.put, List.setIfInBounds_toArray, List.set_cons_zero, List.set_cons_succ])
            refine wpAnyH_done (by kernel_rfl) ?_ _
            go_wp2_with fail
            go_ret
            exact ⟨ret_bool HF.out.symm, below_trans' hb05 hHeld⟩
          · refine q_yes (by rfl) ?_
            go_simp
            refine (HPR.out b hbl _ (below_trans' hb05 hHeld)).mono ?_
            rintro e wq ⟨rfl, hbq⟩
            try have hcr := cell_below hbq hcr
            try have hcm := cell_below hbq hcm
            refine hK.out _ _ (below_trans' hHeld hbq) (fun hHeld => ?_)
            clear hK K
            (try simp only [Act.put, List.setIfInBounds_toArray, List.set_cons_zero, List.set_cons_succ])
            refine hand_one (i := 6) rfl (by kernel_rfl) (fun K hK => ?_)
            refine q_yes (by rfl) ?_
            go_simp
            skip
            refine hK.out _ _ (hHeld) (fun hHeld => ?_)
            clear hK K
            (try simp only [Act.put, List.setIfInBounds_toArray, List.set_cons_zero, List.set_cons_succ])
            first | (refine hand_skip (i := 10) rfl (by kernel_rfl) (by kernel_rfl) (by kernel_rfl) (fun _ _ _ h => h) (by rfl) (by assumption) ?_) | (refine hand_run (i := 10) (v := ?_) rfl (by kernel_rfl) (by kernel_rfl) (by kernel_rfl) (fun _ _ _ h => h) (by rfl) ?_ (by assumption) ?_; rotate_left; (intro W hW; have f0 := cell_below hW c0; have f1 := cell_below hW c1; have f2 := cell_below hW c2; have f3 := cell_below hW c3; have f4 := cell_below hW c4; first | (go_simp; done) | (go_simp; with_reducible rfl)))
            (try simp only [Act.put, List.setIfInBounds_toArray, List.set_cons_zero, List.set_cons_succ])
            refine hand_one (i := 11) rfl (by kernel_rfl) (fun K hK => ?_)
            refine q_yes (by rfl) ?_
            go_simp
            skip
            refine hK.out _ _ (hHeld) (fun hHeld => ?_)
            clear hK K
            (try simp only [Act.put, List.setIfInBounds_toArray, List.set_cons_zero, List.set_cons_succ])
            first | (refine hand_skip (i := 12) rfl (by kernel_rfl) (by kernel_rfl) (by kernel_rfl) (fun _ _ _ h => h) (by rfl) (by assumption) ?_) | (refine hand_run (i := 12) (v := ?_) rfl (by kernel_rfl) (by kernel_rfl) (by kernel_rfl) (fun _ _ _ h => h) (by rfl) ?_ (by assumption) ?_; rotate_left; (intro W hW; have f0 := cell_below hW c0; have f1 := cell_below hW c1; have f2 := cell_below hW c2; have f3 := cell_below hW c3; have f4 := cell_below hW c4; first | (go_simp; done) | (go_simp; with_reducible rfl)))
            (try simp only [Act.put, List.setIfInBounds_toArray, List.set_cons_zero, List.set_cons_succ])
            refine wpAnyH_done (by kernel_rfl) ?_ _
            go_wp2_with fail
            go_ret
            exact ⟨ret_bool HF.out.symm, below_trans' hb05 hHeld⟩
end Go.Proofs.YtfecdgjnncpcjaaGreat
