/- Contract of MetIn of the program. -/
import Derived.Test.YtfecdgjnncpcjaaE5
import Derived.Test.YtfecdgjnncpcjaaD13
set_option linter.unusedSimpArgs false
set_option linter.unusedVariables false
namespace Go.Proofs.Ytfecdgjnncpcjaa
open Go.ChangeShapes Go.WideShapes Go.ChangeAt Go.RowKit

set_option maxHeartbeats 1000000 in
theorem metIn_i {B L : Nat} (v : CV) (k : Cd) (w : World) (hk : CodeAt w B v k) (hcb : CdB L k) (hL : L ≤ 1048576) :
    Calls Try.prog 14 #[.agg #[.slice v.gA k.globals.length v.gc, .slice v.lA k.locks.length v.lc, .slice v.pA k.procs.length v.pc, .slice v.eA k.entry.length v.ec, .slice v.iA k.ins.length v.ic]] w (NewNats w (codeL k (listN k.ins.length (MetP k)))) := by
  have hkf := hk.full
  have hbx := codeBox w v k
  have hpl0 := hcb.procs
  have hil0 := hcb.ins
  cases hok : codeOkI k
  · have HW := Lib.hid (fun W (h : CodeAt W w.heap.size v k) => worldOf_no v k W h hcb (by omega) hok)
    have HZ := Lib.hid (show ∀ w', Below w.heap.size w w' → NewNats w (codeL k (listN k.ins.length (MetP k))) (.returned (.slice none 0 0)) w' from fun w' h => newNil (codeL_no hok) h)
    clear hok hcb hk
    go_enter Try.func14, Try.ntmps14
    go_wp2_with fail
    generalize w.alloc (.cells #[.slice v.gA k.globals.length v.gc, .slice v.lA k.locks.length v.lc, .slice v.pA k.procs.length v.pc, .slice v.eA k.entry.length v.ec, .slice v.iA k.ins.length v.ic] 31) = W at hbx ⊢
    refine (HW.out _ (hkf.below hbx.1)).mono ?_
    rintro e w1 ⟨rfl, hb1⟩
    go_wp2_with fail
    go_ret
    exact HZ.out _ (below_trans' hbx.1 hb1)
  · have HR := Lib.hid (right_of hok)
    have HW := Lib.hid (fun W (h : CodeAt W w.heap.size v k) => worldOf_yes v k W h hcb (by omega) hok)
    have HY := Lib.hid (codeL_yes (F := listN k.ins.length (MetP k)) hok)
    clear hok hcb hk
    go_enter Try.func14, Try.ntmps14
    go_wp2_with fail
    generalize w.alloc (.cells #[.slice v.gA k.globals.length v.gc, .slice v.lA k.locks.length v.lc, .slice v.pA k.procs.length v.pc, .slice v.eA k.entry.length v.ec, .slice v.iA k.ins.length v.ic] 31) = W at hbx ⊢
    refine (HW.out _ (hkf.below hbx.1)).mono ?_
    rintro e w2 ⟨g, rfl, hgl, hW2, hb1⟩
    have hbx2 := hbx.to hb1
    have hb02 := hbx2.1
    clear hbx hb1
    have HC := Lib.hid (met_any g v k w2 HR.out hW2)
    have hins := HR.out.ins
    go_wp2_with fail
    refine HC.out.mono ?_
    rintro e w3 ⟨Am, cm, rfl, hom, hb3⟩
    have HD := marked_any Am cm (markL k.ins.length (MetP k)) w3 (own_rd hom) (by rw [markL_len]; omega)
    rw [listN_markL, markL_len] at HD
    have HD := Lib.hid HD
    rw [markL_len]
    go_wp2_with fail
    refine HD.out.mono ?_
    rintro e w4 ⟨A3, c3', rfl, ho3, hb4⟩
    go_wp2_with fail
    go_ret
    exact NewNats.more ⟨A3, c3', rfl, ho3, hb4⟩ (below_trans' hb02 hb3) HY.out
end Go.Proofs.Ytfecdgjnncpcjaa
