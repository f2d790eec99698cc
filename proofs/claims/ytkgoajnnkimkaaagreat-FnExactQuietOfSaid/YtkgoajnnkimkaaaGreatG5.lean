/- Contracts of EntriesOf, MustOf, MustAt, EffectsOf of the program and of the reference. -/
import Derived.Test.YtkgoajnnkimkaaaGreatG4
set_option linter.unusedSimpArgs false
set_option linter.unusedVariables false
namespace Go.Proofs.YtkgoajnnkimkaaaGreat
open Go.ChangeShapes Go.WideShapes Go.ChangeAt Go.RowKit

theorem entN_len (k : Cd) (es : List (Int × Int)) : (entN k es).length ≤ k.procs.length := by
  unfold entN
  split
  · rename_i h
    rw [(Classical.choose_spec h).fix.len]
    exact Nat.le_refl _
  · simp
/-- The table in right code, else nothing. -/
noncomputable def codeE (k : Cd) (es : List (Int × Int)) : List (Int × Int) := if codeOkI k = true then es else []
theorem codeE_no {k : Cd} {es : List (Int × Int)} (h : codeOkI k = false) : codeE k es = [] := by rw [codeE, if_neg (by rw [h]; simp)]
theorem codeE_yes {k : Cd} {es : List (Int × Int)} (h : codeOkI k = true) : codeE k es = es := by rw [codeE, if_pos h]
theorem codeE_len (k : Cd) : (codeE k (effN k)).length ≤ k.procs.length := by
  unfold codeE
  split
  · exact Nat.le_of_eq (effL_len _ _)
  · simp
theorem NewEff.more {w w1 : World} {es fs : List (Int × Int)} {e : Ending} {w' : World} (h : NewEff w1 es e w') (hb : Below w.heap.size w w1) (he : fs = es) : NewEff w fs e w' := by
  subst he
  obtain ⟨A, c, e1, ho, hb1⟩ := h
  exact ⟨A, c, e1, own_mono ho hb.size, below_trans' hb hb1⟩

set_option maxHeartbeats 1000000 in
theorem entriesOf_i {B L : Nat} (v : CV) (k : Cd) (w : World) (hk : CodeAt w B v k) (hcb : CdB L k) (hL : L ≤ 1048576) :
    Calls Tryz.prog 46 #[.agg #[.slice v.gA k.globals.length v.gc, .slice v.lA k.locks.length v.lc, .slice v.pA k.procs.length v.pc, .slice v.eA k.entry.length v.ec, .slice v.iA k.ins.length v.ic]] w (NewNats w (codeL k (entN k (effN k)))) := by
  have hkf := hk.full
  have hbx := codeBox w v k
  have hpl0 := hcb.procs
  have hil0 := hcb.ins
  cases hok : codeOkI k
  · have HW := Lib.hid (fun W (h : CodeAt W w.heap.size v k) => worldOf_no v k W h hcb (by omega) hok)
    have HZ := Lib.hid (show ∀ w', Below w.heap.size w w' → NewNats w (codeL k (entN k (effN k))) (.returned (.slice none 0 0)) w' from fun w' h => newNil (codeL_no hok) h)
    clear hok hcb hk
    go_enter Tryz.func46, Tryz.ntmps46
    go_wp2_with fail
    generalize w.alloc (.cells #[.slice v.gA k.globals.length v.gc, .slice v.lA k.locks.length v.lc, .slice v.pA k.procs.length v.pc, .slice v.eA k.entry.length v.ec, .slice v.iA k.ins.length v.ic] 28) = W at hbx ⊢
    refine (HW.out _ (hkf.below hbx.1)).mono ?_
    rintro e w1 ⟨rfl, hb1⟩
    go_wp2_with fail
    go_ret
    exact HZ.out _ (below_trans' hbx.1 hb1)
  · have HR := Lib.hid (right_of hok)
    have HW := Lib.hid (fun W (h : CodeAt W w.heap.size v k) => worldOf_yes v k W h hcb (by omega) hok)
    have HY := Lib.hid (codeL_yes (F := entN k (effN k)) hok)
    clear hok hcb hk
    go_enter Tryz.func46, Tryz.ntmps46
    go_wp2_with fail
    generalize w.alloc (.cells #[.slice v.gA k.globals.length v.gc, .slice v.lA k.locks.length v.lc, .slice v.pA k.procs.length v.pc, .slice v.eA k.entry.length v.ec, .slice v.iA k.ins.length v.ic] 28) = W at hbx ⊢
    refine (HW.out _ (hkf.below hbx.1)).mono ?_
    rintro e w2 ⟨g, rfl, hgl, hW2, hb1⟩
    have hbx2 := hbx.to hb1
    have hb02 := hbx2.1
    clear hbx hb1
    have HC := Lib.hid (effects_any g v k w2 HR.out hW2)
    go_wp2_with fail
    refine HC.out.mono ?_
    rintro e w3 ⟨⟨Ae, ce, rfl, hoe, hb3⟩, hgl⟩
    have HD := entries_any g v k Ae ce (effN k) w3 HR.out (hW2.below hb3) (own_rd hoe) (effL_ok hgl) (effL_len _ _)
    have HD := Lib.hid HD
    rw [show (effN k).length = k.procs.length from effL_len _ _]
    go_wp2_with fail
    refine HD.out.mono ?_
    rintro e w4 ⟨⟨A3, c3', rfl, ho3, hb4⟩, _⟩
    go_wp2_with fail
    go_ret
    exact NewNats.more ⟨A3, c3', rfl, ho3, hb4⟩ (below_trans' hb02 hb3) HY.out

set_option maxHeartbeats 1000000 in
theorem mustOf_i {B L : Nat} (v : CV) (k : Cd) (w : World) (hk : CodeAt w B v k) (hcb : CdB L k) (hL : L ≤ 1048576) :
    Calls Tryz.prog 37 #[.agg #[.slice v.gA k.globals.length v.gc, .slice v.lA k.locks.length v.lc, .slice v.pA k.procs.length v.pc, .slice v.eA k.entry.length v.ec, .slice v.iA k.ins.length v.ic]] w (NewNats w (codeL k (mustN k))) := by
  have hkf := hk.full
  have hbx := codeBox w v k
  have hpl0 := hcb.procs
  have hil0 := hcb.ins
  cases hok : codeOkI k
  · have HW := Lib.hid (fun W (h : CodeAt W w.heap.size v k) => worldOf_no v k W h hcb (by omega) hok)
    have HZ := Lib.hid (show ∀ w', Below w.heap.size w w' → NewNats w (codeL k (mustN k)) (.returned (.slice none 0 0)) w' from fun w' h => newNil (codeL_no hok) h)
    clear hok hcb hk
    go_enter Tryz.func37, Tryz.ntmps37
    go_wp2_with fail
    generalize w.alloc (.cells #[.slice v.gA k.globals.length v.gc, .slice v.lA k.locks.length v.lc, .slice v.pA k.procs.length v.pc, .slice v.eA k.entry.length v.ec, .slice v.iA k.ins.length v.ic] 28) = W at hbx ⊢
    refine (HW.out _ (hkf.below hbx.1)).mono ?_
    rintro e w1 ⟨rfl, hb1⟩
    go_wp2_with fail
    go_ret
    exact HZ.out _ (below_trans' hbx.1 hb1)
  · have HR := Lib.hid (right_of hok)
    have HW := Lib.hid (fun W (h : CodeAt W w.heap.size v k) => worldOf_yes v k W h hcb (by omega) hok)
    have HY := Lib.hid (codeL_yes (F := mustN k) hok)
    clear hok hcb hk
    go_enter Tryz.func37, Tryz.ntmps37
    go_wp2_with fail
    generalize w.alloc (.cells #[.slice v.gA k.globals.length v.gc, .slice v.lA k.locks.length v.lc, .slice v.pA k.procs.length v.pc, .slice v.eA k.entry.length v.ec, .slice v.iA k.ins.length v.ic] 28) = W at hbx ⊢
    refine (HW.out _ (hkf.below hbx.1)).mono ?_
    rintro e w2 ⟨g, rfl, hgl, hW2, hb1⟩
    have hbx2 := hbx.to hb1
    have hb02 := hbx2.1
    clear hbx hb1
    have HC := Lib.hid (must_any g v k w2 HR.out hW2)
    go_wp2_with fail
    refine HC.out.mono ?_
    rintro e w3 ⟨A3, c3', rfl, ho3, hb3⟩
    go_wp2_with fail
    go_ret
    exact NewNats.more ⟨A3, c3', rfl, ho3, hb3⟩ hb02 HY.out

set_option maxHeartbeats 1000000 in
theorem mustOf_s {B L : Nat} (v : CV) (k : Cd) (w : World) (hk : CodeAt w B v k) (hcb : CdB L k) (hL : L ≤ 1048576) :
    Calls Tryz.prog 41 #[.agg #[.slice v.gA k.globals.length v.gc, .slice v.lA k.locks.length v.lc, .slice v.pA k.procs.length v.pc, .slice v.eA k.entry.length v.ec, .slice v.iA k.ins.length v.ic]] w (NewNats w (codeL k (mustN k))) := by
  have hkf := hk.full
  have hbx := codeBox w v k
  have hpl0 := hcb.procs
  have hil0 := hcb.ins
  have HG := Lib.hid (fun W (h : CodeAt W w.heap.size v k) => codeOk_sI v k W h hcb (by omega))
  cases hok : codeOkI k
  · have HZ := Lib.hid (show ∀ W, Below w.heap.size w W → NewNats w (codeL k (mustN k)) (.returned (.slice (some ⟨W.heap.size, 0, none⟩) 0 0)) (W.alloc (.cells #[] 3)) from fun W h => newNil0 (codeL_no hok) h)
    rw [hok] at HG
    clear hok hcb hk
    go_enter Tryz.func41, Tryz.ntmps41
    go_wp2_with fail
    generalize w.alloc (.cells #[.slice v.gA k.globals.length v.gc, .slice v.lA k.locks.length v.lc, .slice v.pA k.procs.length v.pc, .slice v.eA k.entry.length v.ec, .slice v.iA k.ins.length v.ic] 28) = W at hbx ⊢
    refine (HG.out _ (hkf.below hbx.1)).mono ?_
    rintro e w1 ⟨rfl, hb1⟩
    go_wp2_with fail
    go_ret
    exact HZ.out _ (below_trans' hbx.1 hb1)
  · rw [hok] at HG
    have hok1 : codeOkI k = true := hok
    have HR := Lib.hid (right_of hok1)
    have HY := Lib.hid (codeL_yes (F := mustN k) hok1)
    have HCB := Lib.hid hcb
    clear hok hok1 hcb hk
    go_enter Tryz.func41, Tryz.ntmps41
    go_wp2_with fail
    generalize w.alloc (.cells #[.slice v.gA k.globals.length v.gc, .slice v.lA k.locks.length v.lc, .slice v.pA k.procs.length v.pc, .slice v.eA k.entry.length v.ec, .slice v.iA k.ins.length v.ic] 28) = W at hbx ⊢
    refine (HG.out _ (hkf.below hbx.1)).mono ?_
    rintro e w2 ⟨rfl, hb2⟩
    have hbx2 := hbx.to hb2
    clear hbx hb2
    have hk2 := hkf.below hbx2.1
    have hb02 := hbx2.1
    obtain ⟨_, _, c0, c1, c2, c3, c4⟩ := id hbx2
    have HC := Lib.hid (l15Must_any v k w2 HR.out hk2 HCB.out hL)
    go_wp2_with fail
    refine HC.out.mono ?_
    rintro e w3 ⟨A3, c3', rfl, ho3, hb3⟩
    go_wp2_with fail
    go_ret
    exact NewNats.more ⟨A3, c3', rfl, ho3, hb3⟩ hb02 HY.out

set_option maxHeartbeats 1000000 in
theorem mustAt_i {B L : Nat} (v : CV) (k : Cd) (at_ : Int) (w : World) (hk : CodeAt w B v k) (hcb : CdB L k) (hL : L ≤ 1048576) :
    Calls Tryz.prog 44 #[.agg #[.slice v.gA k.globals.length v.gc, .slice v.lA k.locks.length v.lc, .slice v.pA k.procs.length v.pc, .slice v.eA k.entry.length v.ec, .slice v.iA k.ins.length v.ic], .int .i64 at_] w (fun e w' => e = .returned (.int .i64 ((atI k at_ (fun a => gt (mustN k) a) : Nat) : Int)) ∧ Below w.heap.size w w') := by
  have hkf := hk.full
  have hbx := codeBox w v k
  have hpl0 := hcb.procs
  have hil0 := hcb.ins
  cases hok : codeOkI k
  · have HW := Lib.hid (fun W (h : CodeAt W w.heap.size v k) => worldOf_no v k W h hcb (by omega) hok)
    have HZ := Lib.hid (show ∀ w', Below w.heap.size w w' → Ending.returned (.int .i64 0) = .returned (.int .i64 ((atI k at_ (fun a => gt (mustN k) a) : Nat) : Int)) ∧ Below w.heap.size w w' from fun w' h => ⟨by rw [atI_no (and_no1 hok)]; rfl, h⟩)
    clear hok hcb hk
    go_enter Tryz.func44, Tryz.ntmps44
    go_wp2_with fail
    generalize w.alloc (.cells #[.slice v.gA k.globals.length v.gc, .slice v.lA k.locks.length v.lc, .slice v.pA k.procs.length v.pc, .slice v.eA k.entry.length v.ec, .slice v.iA k.ins.length v.ic] 28) = W at hbx ⊢
    refine (HW.out _ (hkf.below hbx.1)).mono ?_
    rintro e w1 ⟨rfl, hb1⟩
    go_wp2_with fail
    go_ret
    exact HZ.out _ (below_trans' hbx.1 hb1)
  · have HR := Lib.hid (right_of hok)
    have HW := Lib.hid (fun W (h : CodeAt W w.heap.size v k) => worldOf_yes v k W h hcb (by omega) hok)
    cases hpl : (decide (0 ≤ at_) && decide (at_ < k.ins.length))
    · have HZ := Lib.hid (show ∀ w', Below w.heap.size w w' → Ending.returned (.int .i64 0) = .returned (.int .i64 ((atI k at_ (fun a => gt (mustN k) a) : Nat) : Int)) ∧ Below w.heap.size w w' from fun w' h => ⟨by rw [atI_no (and_no2 hpl)]; rfl, h⟩)
      have HPL := Lib.hid hpl
      clear hok hpl hcb hk
      go_enter Tryz.func44, Tryz.ntmps44
      go_wp2_with fail
      generalize w.alloc (.cells #[.slice v.gA k.globals.length v.gc, .slice v.lA k.locks.length v.lc, .slice v.pA k.procs.length v.pc, .slice v.eA k.entry.length v.ec, .slice v.iA k.ins.length v.ic] 28) = W at hbx ⊢
      refine (HW.out _ (hkf.below hbx.1)).mono ?_
      rintro e w1 ⟨g, rfl, hgl, hW, hb1⟩
      have hbx1 := hbx.to hb1
      obtain ⟨hbw, hsz, c0, c1, c2, c3, c4⟩ := id hbx1
      go_wp2_with fail
      refine (isPlace_any v k _ _).mono ?_
      rintro e w2 ⟨rfl, hb2⟩
      rw [HPL.out]
      go_wp2_with fail
      go_ret
      exact HZ.out _ (below_trans' hbw hb2)
    · obtain ⟨a, rfl, hal⟩ : ∃ a : Nat, at_ = a ∧ a < k.ins.length := by
        simp only [Bool.and_eq_true, decide_eq_true_eq] at hpl
        exact ⟨at_.toNat, by omega, by omega⟩
      have HY := Lib.hid (atI_yes (H := fun a => gt (mustN k) a) hok hal)
      have HPL := Lib.hid hpl
      clear hok hpl hcb hk
      go_enter Tryz.func44, Tryz.ntmps44
      go_wp2_with fail
      generalize w.alloc (.cells #[.slice v.gA k.globals.length v.gc, .slice v.lA k.locks.length v.lc, .slice v.pA k.procs.length v.pc, .slice v.eA k.entry.length v.ec, .slice v.iA k.ins.length v.ic] 28) = W at hbx ⊢
      refine (HW.out _ (hkf.below hbx.1)).mono ?_
      rintro e w1 ⟨g, rfl, hgl, hW, hb1⟩
      have hbx1 := hbx.to hb1
      obtain ⟨hbw, hsz, c0, c1, c2, c3, c4⟩ := id hbx1
      go_wp2_with fail
      refine (isPlace_any v k _ _).mono ?_
      rintro e w2 ⟨rfl, hb2⟩
      rw [HPL.out]
      clear c0 c1 c2 c3 c4
      have hW2 := hW.below hb2
      have hb02 := below_trans' hbw hb2
      have hbx2 := hbx1.to hb2
      clear hbx1 hbw hsz hb2 hb1 hbx
      have HC := Lib.hid (must_any g v k w2 HR.out hW2)
      go_wp2_with fail
      refine HC.out.mono ?_
      rintro e w3 ⟨A3, c3', rfl, ho3, hb3⟩
      rw [mustN_len] at ho3 ⊢
      obtain ⟨ad3, ea3, _, hc3⟩ := (own_rd ho3).nat (j := a) (by rw [mustN_len]; exact hal)
      subst ea3
      rw [gt_get (xs := mustN k) (by rw [mustN_len]; exact hal)] at hc3
      have z1 : (0 : Int) ≤ (a : Int) := by omega
      have z2 : (a : Int) < (k.ins.length : Int) := by omega
      go_wp2_with fail
      go_ret
      exact ⟨ret_int (by rw [HY.out]), below_trans' hb02 hb3⟩

set_option maxHeartbeats 1000000 in
theorem effectsOf_i {B L : Nat} (v : CV) (k : Cd) (w : World) (hk : CodeAt w B v k) (hcb : CdB L k) (hL : L ≤ 1048576) :
    Calls Tryz.prog 13 #[.agg #[.slice v.gA k.globals.length v.gc, .slice v.lA k.locks.length v.lc, .slice v.pA k.procs.length v.pc, .slice v.eA k.entry.length v.ec, .slice v.iA k.ins.length v.ic]] w (NewEff w (codeE k (effN k))) := by
  have hkf := hk.full
  have hbx := codeBox w v k
  have hpl0 := hcb.procs
  have hil0 := hcb.ins
  cases hok : codeOkI k
  · have HW := Lib.hid (fun W (h : CodeAt W w.heap.size v k) => worldOf_no v k W h hcb (by omega) hok)
    have HZ := Lib.hid (show ∀ w', Below w.heap.size w w' → NewEff w (codeE k (effN k)) (.returned (.slice none 0 0)) w' from fun w' h => by rw [codeE_no hok]; exact ⟨none, 0, rfl, World.ownsRow_nil _ _ _ _, h⟩)
    clear hok hcb hk
    go_enter Tryz.func13, Tryz.ntmps13
    go_wp2_with fail
    generalize w.alloc (.cells #[.slice v.gA k.globals.length v.gc, .slice v.lA k.locks.length v.lc, .slice v.pA k.procs.length v.pc, .slice v.eA k.entry.length v.ec, .slice v.iA k.ins.length v.ic] 28) = W at hbx ⊢
    refine (HW.out _ (hkf.below hbx.1)).mono ?_
    rintro e w1 ⟨rfl, hb1⟩
    go_wp2_with fail
    go_ret
    exact HZ.out _ (below_trans' hbx.1 hb1)
  · have HR := Lib.hid (right_of hok)
    have HW := Lib.hid (fun W (h : CodeAt W w.heap.size v k) => worldOf_yes v k W h hcb (by omega) hok)
    have HY := Lib.hid (codeE_yes (es := effN k) hok)
    clear hok hcb hk
    go_enter Tryz.func13, Tryz.ntmps13
    go_wp2_with fail
    generalize w.alloc (.cells #[.slice v.gA k.globals.length v.gc, .slice v.lA k.locks.length v.lc, .slice v.pA k.procs.length v.pc, .slice v.eA k.entry.length v.ec, .slice v.iA k.ins.length v.ic] 28) = W at hbx ⊢
    refine (HW.out _ (hkf.below hbx.1)).mono ?_
    rintro e w2 ⟨g, rfl, hgl, hW2, hb1⟩
    have hbx2 := hbx.to hb1
    have hb02 := hbx2.1
    clear hbx hb1
    have HC := Lib.hid (effects_any g v k w2 HR.out hW2)
    go_wp2_with fail
    refine HC.out.mono ?_
    rintro e w3 ⟨⟨A3, c3', rfl, ho3, hb3⟩, _⟩
    go_wp2_with fail
    go_ret
    exact NewEff.more ⟨A3, c3', rfl, ho3, hb3⟩ hb02 HY.out

set_option maxHeartbeats 1000000 in
theorem effectsOf_s {B L : Nat} (v : CV) (k : Cd) (w : World) (hk : CodeAt w B v k) (hcb : CdB L k) (hL : L ≤ 1048576) :
    Calls Tryz.prog 14 #[.agg #[.slice v.gA k.globals.length v.gc, .slice v.lA k.locks.length v.lc, .slice v.pA k.procs.length v.pc, .slice v.eA k.entry.length v.ec, .slice v.iA k.ins.length v.ic]] w (NewEff w (codeE k (effN k))) := by
  have hkf := hk.full
  have hbx := codeBox w v k
  have hpl0 := hcb.procs
  have hil0 := hcb.ins
  have HG := Lib.hid (fun W (h : CodeAt W w.heap.size v k) => codeOk_sI v k W h hcb (by omega))
  cases hok : codeOkI k
  · have HZ := Lib.hid (show ∀ W, Below w.heap.size w W → NewEff w (codeE k (effN k)) (.returned (.slice (some ⟨W.heap.size, 0, none⟩) 0 0)) (W.alloc (.cells #[] 39)) from fun W h => by rw [codeE_no hok]; exact ⟨_, _, rfl, World.ownsRow_lit _ #[] 0 h.size (by simp) rfl, below_alloc h (Nat.le_refl _) _⟩)
    rw [hok] at HG
    clear hok hcb hk
    go_enter Tryz.func14, Tryz.ntmps14
    go_wp2_with fail
    generalize w.alloc (.cells #[.slice v.gA k.globals.length v.gc, .slice v.lA k.locks.length v.lc, .slice v.pA k.procs.length v.pc, .slice v.eA k.entry.length v.ec, .slice v.iA k.ins.length v.ic] 28) = W at hbx ⊢
    refine (HG.out _ (hkf.below hbx.1)).mono ?_
    rintro e w1 ⟨rfl, hb1⟩
    go_wp2_with fail
    go_ret
    exact HZ.out _ (below_trans' hbx.1 hb1)
  · rw [hok] at HG
    have hok1 : codeOkI k = true := hok
    have HR := Lib.hid (right_of hok1)
    have HY := Lib.hid (codeE_yes (es := effN k) hok1)
    have HCB := Lib.hid hcb
    clear hok hok1 hcb hk
    go_enter Tryz.func14, Tryz.ntmps14
    go_wp2_with fail
    generalize w.alloc (.cells #[.slice v.gA k.globals.length v.gc, .slice v.lA k.locks.length v.lc, .slice v.pA k.procs.length v.pc, .slice v.eA k.entry.length v.ec, .slice v.iA k.ins.length v.ic] 28) = W at hbx ⊢
    refine (HG.out _ (hkf.below hbx.1)).mono ?_
    rintro e w2 ⟨rfl, hb2⟩
    have hbx2 := hbx.to hb2
    clear hbx hb2
    have hk2 := hkf.below hbx2.1
    have hb02 := hbx2.1
    obtain ⟨_, _, c0, c1, c2, c3, c4⟩ := id hbx2
    have HC := Lib.hid (l13Effects_any v k w2 HR.out hk2 HCB.out hL)
    go_wp2_with fail
    refine HC.out.mono ?_
    rintro e w3 ⟨⟨A3, c3', rfl, ho3, hb3⟩, _⟩
    go_wp2_with fail
    go_ret
    exact NewEff.more ⟨A3, c3', rfl, ho3, hb3⟩ hb02 HY.out
end Go.Proofs.YtkgoajnnkimkaaaGreat
