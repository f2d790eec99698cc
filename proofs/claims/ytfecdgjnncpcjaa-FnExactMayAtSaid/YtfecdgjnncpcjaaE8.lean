/- Contracts of MayOf and MayAt of the program. -/
import Derived.Test.YtfecdgjnncpcjaaE7
import Derived.Test.YtfecdgjnncpcjaaD13
set_option linter.unusedSimpArgs false
set_option linter.unusedVariables false
namespace Go.Proofs.Ytfecdgjnncpcjaa
open Go.ChangeShapes Go.WideShapes Go.ChangeAt Go.RowKit

set_option maxHeartbeats 1000000 in
theorem mayOf_i {B L : Nat} (v : CV) (k : Cd) (w : World) (hk : CodeAt w B v k) (hcb : CdB L k) (hL : L ≤ 1048576) :
    Calls Try.prog 22 #[.agg #[.slice v.gA k.globals.length v.gc, .slice v.lA k.locks.length v.lc, .slice v.pA k.procs.length v.pc, .slice v.eA k.entry.length v.ec, .slice v.iA k.ins.length v.ic]] w (NewNats w (codeL k (mayN k))) := by
  have hkf := hk.full
  have hbx := codeBox w v k
  have hpl0 := hcb.procs
  have hil0 := hcb.ins
  cases hok : codeOkI k
  · have HW := Lib.hid (fun W (h : CodeAt W w.heap.size v k) => worldOf_no v k W h hcb (by omega) hok)
    have HZ := Lib.hid (show ∀ w', Below w.heap.size w w' → NewNats w (codeL k (mayN k)) (.returned (.slice none 0 0)) w' from fun w' h => newNil (codeL_no hok) h)
    clear hok hcb hk
    go_enter Try.func22, Try.ntmps22
    go_wp2_with fail
    generalize w.alloc (.cells #[.slice v.gA k.globals.length v.gc, .slice v.lA k.locks.length v.lc, .slice v.pA k.procs.length v.pc, .slice v.eA k.entry.length v.ec, .slice v.iA k.ins.length v.ic] 31) = W at hbx ⊢
    refine (HW.out _ (hkf.below hbx.1)).mono ?_
    rintro e w1 ⟨rfl, hb1⟩
    go_wp2_with fail
    go_ret
    exact HZ.out _ (below_trans' hbx.1 hb1)
  · have HR := Lib.hid (right_of hok)
    have HW := Lib.hid (fun W (h : CodeAt W w.heap.size v k) => worldOf_yes v k W h hcb (by omega) hok)
    have HY := Lib.hid (codeL_yes (F := mayN k) hok)
    clear hok hcb hk
    go_enter Try.func22, Try.ntmps22
    go_wp2_with fail
    generalize w.alloc (.cells #[.slice v.gA k.globals.length v.gc, .slice v.lA k.locks.length v.lc, .slice v.pA k.procs.length v.pc, .slice v.eA k.entry.length v.ec, .slice v.iA k.ins.length v.ic] 31) = W at hbx ⊢
    refine (HW.out _ (hkf.below hbx.1)).mono ?_
    rintro e w2 ⟨g, rfl, hgl, hW2, hb1⟩
    have hbx2 := hbx.to hb1
    have hb02 := hbx2.1
    clear hbx hb1
    have HC := Lib.hid (met_any g v k w2 HR.out hW2)
    go_wp2_with fail
    refine HC.out.mono ?_
    rintro e w3 ⟨Am, cm, rfl, hom, hb3⟩
    have HD := Lib.hid (may_any g v k Am cm w3 HR.out (hW2.below hb3) (own_rd hom))
    rw [markL_len]
    go_wp2_with fail
    refine HD.out.mono ?_
    rintro e w4 ⟨A3, c3', rfl, ho3, hb4⟩
    go_wp2_with fail
    go_ret
    exact NewNats.more ⟨A3, c3', rfl, ho3, hb4⟩ (below_trans' hb02 hb3) HY.out

set_option maxHeartbeats 1000000 in
theorem mayAt_i {B L : Nat} (v : CV) (k : Cd) (at_ : Int) (w : World) (hk : CodeAt w B v k) (hcb : CdB L k) (hL : L ≤ 1048576) :
    Calls Try.prog 11 #[.agg #[.slice v.gA k.globals.length v.gc, .slice v.lA k.locks.length v.lc, .slice v.pA k.procs.length v.pc, .slice v.eA k.entry.length v.ec, .slice v.iA k.ins.length v.ic], .int .i64 at_] w (fun e w' => e = .returned (.int .i64 ((atI k at_ (fun a => gt (mayN k) a) : Nat) : Int)) ∧ Below w.heap.size w w') := by
  have hkf := hk.full
  have hbx := codeBox w v k
  have hpl0 := hcb.procs
  have hil0 := hcb.ins
  cases hok : codeOkI k
  · have HW := Lib.hid (fun W (h : CodeAt W w.heap.size v k) => worldOf_no v k W h hcb (by omega) hok)
    have HZ := Lib.hid (show ∀ w', Below w.heap.size w w' → Ending.returned (.int .i64 0) = .returned (.int .i64 ((atI k at_ (fun a => gt (mayN k) a) : Nat) : Int)) ∧ Below w.heap.size w w' from fun w' h => ⟨by rw [atI_no (and_no1 hok)]; rfl, h⟩)
    clear hok hcb hk
    go_enter Try.func11, Try.ntmps11
    go_wp2_with fail
    generalize w.alloc (.cells #[.slice v.gA k.globals.length v.gc, .slice v.lA k.locks.length v.lc, .slice v.pA k.procs.length v.pc, .slice v.eA k.entry.length v.ec, .slice v.iA k.ins.length v.ic] 31) = W at hbx ⊢
    refine (HW.out _ (hkf.below hbx.1)).mono ?_
    rintro e w1 ⟨rfl, hb1⟩
    go_wp2_with fail
    go_ret
    exact HZ.out _ (below_trans' hbx.1 hb1)
  · have HR := Lib.hid (right_of hok)
    have HW := Lib.hid (fun W (h : CodeAt W w.heap.size v k) => worldOf_yes v k W h hcb (by omega) hok)
    cases hpl : (decide (0 ≤ at_) && decide (at_ < k.ins.length))
    · have HZ := Lib.hid (show ∀ w', Below w.heap.size w w' → Ending.returned (.int .i64 0) = .returned (.int .i64 ((atI k at_ (fun a => gt (mayN k) a) : Nat) : Int)) ∧ Below w.heap.size w w' from fun w' h => ⟨by rw [atI_no (and_no2 hpl)]; rfl, h⟩)
      have HPL := Lib.hid hpl
      clear hok hpl hcb hk
      go_enter Try.func11, Try.ntmps11
      go_wp2_with fail
      generalize w.alloc (.cells #[.slice v.gA k.globals.length v.gc, .slice v.lA k.locks.length v.lc, .slice v.pA k.procs.length v.pc, .slice v.eA k.entry.length v.ec, .slice v.iA k.ins.length v.ic] 31) = W at hbx ⊢
      refine (HW.out _ (hkf.below hbx.1)).mono ?_
      rintro e w1 ⟨g, rfl, hgl, hW, hb1⟩
      have hbx1 := hbx.to hb1
      obtain ⟨hbw, hsz, c0, c1, c2, c3, c4⟩ := id hbx1
      go_wp2_with fail
      refine (isPlace_any v k _ _).mono ?_
      rintro e w2 ⟨rfl, hb2⟩
      rw [HPL.out]
      go_wp2_with fail
      go_ret
      exact HZ.out _ (below_trans' hbw hb2)
    · obtain ⟨a, rfl, hal⟩ : ∃ a : Nat, at_ = a ∧ a < k.ins.length := by
        simp only [Bool.and_eq_true, decide_eq_true_eq] at hpl
        exact ⟨at_.toNat, by omega, by omega⟩
      have HY := Lib.hid (atI_yes (H := fun a => gt (mayN k) a) hok hal)
      have HPL := Lib.hid hpl
      clear hok hpl hcb hk
      go_enter Try.func11, Try.ntmps11
      go_wp2_with fail
      generalize w.alloc (.cells #[.slice v.gA k.globals.length v.gc, .slice v.lA k.locks.length v.lc, .slice v.pA k.procs.length v.pc, .slice v.eA k.entry.length v.ec, .slice v.iA k.ins.length v.ic] 31) = W at hbx ⊢
      refine (HW.out _ (hkf.below hbx.1)).mono ?_
      rintro e w1 ⟨g, rfl, hgl, hW, hb1⟩
      have hbx1 := hbx.to hb1
      obtain ⟨hbw, hsz, c0, c1, c2, c3, c4⟩ := id hbx1
      go_wp2_with fail
      refine (isPlace_any v k _ _).mono ?_
      rintro e w2 ⟨rfl, hb2⟩
      rw [HPL.out]
      clear c0 c1 c2 c3 c4
      have hW2 := hW.below hb2
      have hb02 := below_trans' hbw hb2
      have hbx2 := hbx1.to hb2
      clear hbx1 hbw hsz hb2 hb1 hbx
      have HC := Lib.hid (met_any g v k w2 HR.out hW2)
      go_wp2_with fail
      refine HC.out.mono ?_
      rintro e w3 ⟨Am, cm, rfl, hom, hb3⟩
      have HD := Lib.hid (may_any g v k Am cm w3 HR.out (hW2.below hb3) (own_rd hom))
      rw [markL_len]
      go_wp2_with fail
      refine HD.out.mono ?_
      rintro e w4 ⟨A3, c3', rfl, ho3, hb4⟩
      rw [mayN_len] at ho3 ⊢
      obtain ⟨ad3, ea3, _, hc3⟩ := (own_rd ho3).nat (j := a) (by rw [mayN_len]; exact hal)
      subst ea3
      rw [gt_get (xs := mayN k) (by rw [mayN_len]; exact hal)] at hc3
      have z1 : (0 : Int) ≤ (a : Int) := by omega
      have z2 : (a : Int) < (k.ins.length : Int) := by omega
      go_wp2_with fail
      go_ret
      exact ⟨ret_int (by rw [HY.out]), below_trans' (below_trans' hb02 hb3) hb4⟩
end Go.Proofs.Ytfecdgjnncpcjaa
