/- Contracts of MetIn, MayOf, MayAt of the reference. -/
import Derived.Test.YtfecdgjnncpcjaaE2
import Derived.Test.YtfecdgjnncpcjaaD13
set_option linter.unusedSimpArgs false
set_option linter.unusedVariables false
namespace Go.Proofs.Ytfecdgjnncpcjaa
open Go.ChangeShapes Go.WideShapes Go.ChangeAt Go.RowKit

set_option maxHeartbeats 1000000 in
theorem metIn_s {B L : Nat} (v : CV) (k : Cd) (w : World) (hk : CodeAt w B v k) (hcb : CdB L k) (hL : L ≤ 1048576) :
    Calls Try.prog 13 #[.agg #[.slice v.gA k.globals.length v.gc, .slice v.lA k.locks.length v.lc, .slice v.pA k.procs.length v.pc, .slice v.eA k.entry.length v.ec, .slice v.iA k.ins.length v.ic]] w (NewNats w (codeL k (listN k.ins.length (MetP k)))) := by
  have hkf := hk.full
  have hbx := codeBox w v k
  have hpl0 := hcb.procs
  have hil0 := hcb.ins
  have HG := Lib.hid (fun W (h : CodeAt W w.heap.size v k) => codeOk_sI v k W h hcb (by omega))
  cases hok : codeOkI k
  · have HZ := Lib.hid (show ∀ W, Below w.heap.size w W → NewNats w (codeL k (listN k.ins.length (MetP k))) (.returned (.slice (some ⟨W.heap.size, 0, none⟩) 0 0)) (W.alloc (.cells #[] 3)) from fun W h => newNil0 (codeL_no hok) h)
    rw [hok] at HG
    clear hok hcb hk
    go_enter Try.func13, Try.ntmps13
    go_wp2_with fail
    generalize w.alloc (.cells #[.slice v.gA k.globals.length v.gc, .slice v.lA k.locks.length v.lc, .slice v.pA k.procs.length v.pc, .slice v.eA k.entry.length v.ec, .slice v.iA k.ins.length v.ic] 31) = W at hbx ⊢
    refine (HG.out _ (hkf.below hbx.1)).mono ?_
    rintro e w1 ⟨rfl, hb1⟩
    go_wp2_with fail
    go_ret
    exact HZ.out _ (below_trans' hbx.1 hb1)
  · rw [hok] at HG
    have hok1 : codeOkI k = true := hok
    have HR := Lib.hid (right_of hok1)
    have HY := Lib.hid (codeL_yes (F := listN k.ins.length (MetP k)) hok1)
    have HCB := Lib.hid hcb
    clear hok hok1 hcb hk
    go_enter Try.func13, Try.ntmps13
    go_wp2_with fail
    generalize w.alloc (.cells #[.slice v.gA k.globals.length v.gc, .slice v.lA k.locks.length v.lc, .slice v.pA k.procs.length v.pc, .slice v.eA k.entry.length v.ec, .slice v.iA k.ins.length v.ic] 31) = W at hbx ⊢
    refine (HG.out _ (hkf.below hbx.1)).mono ?_
    rintro e w2 ⟨rfl, hb2⟩
    have hbx2 := hbx.to hb2
    clear hbx hb2
    have hk2 := hkf.below hbx2.1
    have hb02 := hbx2.1
    obtain ⟨_, _, c0, c1, c2, c3, c4⟩ := id hbx2
    have HC := Lib.hid (l16All_any v k w2 HR.out hk2 HCB.out hL)
    have hins := HR.out.ins
    go_wp2_with fail
    refine HC.out.mono ?_
    rintro e w3 ⟨g, gm, gx, rfl, hLK, hb3⟩
    have c5 := hLK.cell 5 rfl
    have c6 := hLK.cell 6 rfl
    have HD := l09Marked_any (some ⟨gm, 0, none⟩) k.ins.length (markL k.ins.length (MetP k)) w3 (own_rd hLK.rm) (by rw [markL_len]; omega)
    rw [listN_markL, markL_len] at HD
    have HD := Lib.hid HD
    go_wp2_with fail
    refine HD.out.mono ?_
    rintro e w4 ⟨A3, c3', rfl, ho3, hb4⟩
    go_wp2_with fail
    go_ret
    exact NewNats.more ⟨A3, c3', rfl, ho3, hb4⟩ (below_trans' hb02 hb3) HY.out

set_option maxHeartbeats 1000000 in
theorem mayOf_s {B L : Nat} (v : CV) (k : Cd) (w : World) (hk : CodeAt w B v k) (hcb : CdB L k) (hL : L ≤ 1048576) :
    Calls Try.prog 21 #[.agg #[.slice v.gA k.globals.length v.gc, .slice v.lA k.locks.length v.lc, .slice v.pA k.procs.length v.pc, .slice v.eA k.entry.length v.ec, .slice v.iA k.ins.length v.ic]] w (NewNats w (codeL k (mayN k))) := by
  have hkf := hk.full
  have hbx := codeBox w v k
  have hpl0 := hcb.procs
  have hil0 := hcb.ins
  have HG := Lib.hid (fun W (h : CodeAt W w.heap.size v k) => codeOk_sI v k W h hcb (by omega))
  cases hok : codeOkI k
  · have HZ := Lib.hid (show ∀ W, Below w.heap.size w W → NewNats w (codeL k (mayN k)) (.returned (.slice (some ⟨W.heap.size, 0, none⟩) 0 0)) (W.alloc (.cells #[] 3)) from fun W h => newNil0 (codeL_no hok) h)
    rw [hok] at HG
    clear hok hcb hk
    go_enter Try.func21, Try.ntmps21
    go_wp2_with fail
    generalize w.alloc (.cells #[.slice v.gA k.globals.length v.gc, .slice v.lA k.locks.length v.lc, .slice v.pA k.procs.length v.pc, .slice v.eA k.entry.length v.ec, .slice v.iA k.ins.length v.ic] 31) = W at hbx ⊢
    refine (HG.out _ (hkf.below hbx.1)).mono ?_
    rintro e w1 ⟨rfl, hb1⟩
    go_wp2_with fail
    go_ret
    exact HZ.out _ (below_trans' hbx.1 hb1)
  · rw [hok] at HG
    have hok1 : codeOkI k = true := hok
    have HR := Lib.hid (right_of hok1)
    have HY := Lib.hid (codeL_yes (F := mayN k) hok1)
    have HCB := Lib.hid hcb
    clear hok hok1 hcb hk
    go_enter Try.func21, Try.ntmps21
    go_wp2_with fail
    generalize w.alloc (.cells #[.slice v.gA k.globals.length v.gc, .slice v.lA k.locks.length v.lc, .slice v.pA k.procs.length v.pc, .slice v.eA k.entry.length v.ec, .slice v.iA k.ins.length v.ic] 31) = W at hbx ⊢
    refine (HG.out _ (hkf.below hbx.1)).mono ?_
    rintro e w2 ⟨rfl, hb2⟩
    have hbx2 := hbx.to hb2
    clear hbx hb2
    have hk2 := hkf.below hbx2.1
    have hb02 := hbx2.1
    obtain ⟨_, _, c0, c1, c2, c3, c4⟩ := id hbx2
    have HC := Lib.hid (l16All_any v k w2 HR.out hk2 HCB.out hL)
    have hins := HR.out.ins
    go_wp2_with fail
    refine HC.out.mono ?_
    rintro e w3 ⟨g, gm, gx, rfl, hLK, hb3⟩
    have c5 := hLK.cell 5 rfl
    have c6 := hLK.cell 6 rfl
    go_wp2_with fail
    go_ret
    have h : NewNats w2 (mayN k) (.returned (.slice (some ⟨gx, 0, none⟩) k.ins.length k.ins.length)) w3 := by
      unfold NewNats NewRow
      rw [mayN_len]
      exact ⟨_, _, rfl, hLK.rx, hb3⟩
    exact NewNats.more h hb02 HY.out

set_option maxHeartbeats 1000000 in
theorem mayAt_s {B L : Nat} (v : CV) (k : Cd) (at_ : Int) (w : World) (hk : CodeAt w B v k) (hcb : CdB L k) (hL : L ≤ 1048576) :
    Calls Try.prog 9 #[.agg #[.slice v.gA k.globals.length v.gc, .slice v.lA k.locks.length v.lc, .slice v.pA k.procs.length v.pc, .slice v.eA k.entry.length v.ec, .slice v.iA k.ins.length v.ic], .int .i64 at_] w (fun e w' => e = .returned (.int .i64 ((atI k at_ (fun a => gt (mayN k) a) : Nat) : Int)) ∧ Below w.heap.size w w') := by
  have hkf := hk.full
  have hbx := codeBox w v k
  have hpl0 := hcb.procs
  have hil0 := hcb.ins
  have HG := Lib.hid (fun W (h : CodeAt W w.heap.size v k) => l09At_any v k at_ W h hcb (by omega))
  cases hok : (codeOkI k && (decide (0 ≤ at_) && decide (at_ < k.ins.length)))
  · have HZ := Lib.hid (show ∀ w', Below w.heap.size w w' → Ending.returned (.int .i64 0) = .returned (.int .i64 ((atI k at_ (fun a => gt (mayN k) a) : Nat) : Int)) ∧ Below w.heap.size w w' from fun w' h => ⟨by rw [atI_no hok]; rfl, h⟩)
    rw [hok] at HG
    clear hok hcb hk
    go_enter Try.func9, Try.ntmps9
    go_wp2_with fail
    generalize w.alloc (.cells #[.slice v.gA k.globals.length v.gc, .slice v.lA k.locks.length v.lc, .slice v.pA k.procs.length v.pc, .slice v.eA k.entry.length v.ec, .slice v.iA k.ins.length v.ic] 31) = W at hbx ⊢
    refine (HG.out _ (hkf.below hbx.1)).mono ?_
    rintro e w1 ⟨rfl, hb1⟩
    go_wp2_with fail
    go_ret
    exact HZ.out _ (below_trans' hbx.1 hb1)
  · rw [hok] at HG
    obtain ⟨hok1, a, rfl, hal⟩ : codeOkI k = true ∧ ∃ a : Nat, at_ = a ∧ a < k.ins.length := by
      simp only [Bool.and_eq_true, decide_eq_true_eq] at hok
      exact ⟨hok.1, at_.toNat, by omega, by omega⟩
    have HR := Lib.hid (right_of hok1)
    have HY := Lib.hid (atI_yes (H := fun a => gt (mayN k) a) hok1 hal)
    have HCB := Lib.hid hcb
    clear hok hok1 hcb hk
    go_enter Try.func9, Try.ntmps9
    go_wp2_with fail
    generalize w.alloc (.cells #[.slice v.gA k.globals.length v.gc, .slice v.lA k.locks.length v.lc, .slice v.pA k.procs.length v.pc, .slice v.eA k.entry.length v.ec, .slice v.iA k.ins.length v.ic] 31) = W at hbx ⊢
    refine (HG.out _ (hkf.below hbx.1)).mono ?_
    rintro e w2 ⟨rfl, hb2⟩
    have hbx2 := hbx.to hb2
    clear hbx hb2
    have hk2 := hkf.below hbx2.1
    have hb02 := hbx2.1
    obtain ⟨_, _, c0, c1, c2, c3, c4⟩ := id hbx2
    have HC := Lib.hid (l16All_any v k w2 HR.out hk2 HCB.out hL)
    have hins := HR.out.ins
    go_wp2_with fail
    refine HC.out.mono ?_
    rintro e w3 ⟨g, gm, gx, rfl, hLK, hb3⟩
    have c5 := hLK.cell 5 rfl
    have c6 := hLK.cell 6 rfl
    have cx := own_at hLK.rx (j := a) hal (nv_get (gt_some (xs := mayN k) (by rw [mayN_len]; exact hal)))
    have z1 : (0 : Int) ≤ (a : Int) := by omega
    have z2 : (a : Int) < (k.ins.length : Int) := by omega
    go_wp2_with fail
    go_ret
    exact ⟨ret_int (by rw [HY.out]), below_trans' hb02 hb3⟩
end Go.Proofs.Ytfecdgjnncpcjaa
