/- Contracts of single and l14Single; Single of the program and of the reference. -/
import Derived.Test.YtkgoajnnkimkaaaGreatMFnRoots
import Derived.Test.YtkgoajnnkimkaaaGreatH4
import Derived.Carry
import Derived.ChangeSame
import Derived.ChangeSlices
import Derived.Deep.Strs
import Derived.Lib.SmallJoins
import Derived.Test.YtkgoajnnkimkaaaGreatB2
import Derived.Test.YtkgoajnnkimkaaaGreatQ1
import Derived.Test.YtkgoajnnkimkaaaGreatQ3
set_option linter.unusedSimpArgs false
set_option linter.unusedVariables false
set_option maxRecDepth 100000
set_option maxHeartbeats 16000000
namespace Go.Proofs.YtkgoajnnkimkaaaGreat
open Go.ChangeShapes Go.WideShapes Go.ChangeAt Go.RowKit
theorem singR_main {k : Cd} : SingR k (mainN k) ↔ startsL k (mainN k) = [] := ⟨fun h => sing_main.1 h.2, fun h => ⟨main_root k, sing_main.2 h⟩⟩
theorem nilB_sing {k : Cd} : nilB (startsL k (mainN k)) = singB k (mainN k) := by
 by_cases h : startsL k (mainN k) = []
 ·
  rw [nilB_yes h, singB_yes (singR_main.2 h)]
 ·
  rw [nilB_no h, singB_no fun h1 => h (singR_main.1 h1)]
theorem single_any {B : Nat} (g : Nat) (v : CV) (k : Cd) (x : Nat) (w : World) (hr : Right k) (hW : WAt w B g v k) (hx : x < k.procs.length) :
  Calls Tryz.prog 103 #[.pointer (some ⟨g, 0, none⟩), .int .i64 x] w fun e w' => e = .returned (.bool (singB k x)) ∧ Below w.heap.size w w' := by
 by_cases hm : x = mainN k
 ·
  subst hm
  have := single_main g v k w hr hW
  rw [nilB_sing] at this
  exact this
 ·
  exact single_other g v k x w hr hW hx hm
theorem single_no (g : Nat) (v : CV) (k : Cd) (x : Int) (w : World) (hr : Right k) (hg : KAt w g v k) (hx : (decide (0 ≤ x) && decide (x < k.procs.length)) = false) :
  Calls Tryz.prog 103 #[.pointer (some ⟨g, 0, none⟩), .int .i64 x] w fun e w' => e = .returned (.bool false) ∧ Below w.heap.size w w' := by
 have hpl := hr.procs
 have HP := isProc_any g v k x w hg (by omega)
 rw [hx] at HP
 have HP := Lib.hid HP
 clear hx hr
 go_enter Tryz.func103, Tryz.ntmps103
 go_wp2_with fail
 refine HP.out.mono ?_
 rintro e w1 ⟨rfl, rfl⟩
 go_wp2_with fail
 go_ret
 exact ⟨rfl, Below.refl _ _⟩
theorem single_i {B L : Nat} (v : CV) (k : Cd) (at_ : Int) (w : World) (hk : CodeAt w B v k) (hcb : CdB L k) (hL : L ≤ 1048576) :
  Calls Tryz.prog 28 #[.agg #[.slice v.gA k.globals.length v.gc, .slice v.lA k.locks.length v.lc, .slice v.pA k.procs.length v.pc, .slice v.eA k.entry.length v.ec, .slice v.iA k.ins.length v.ic], .int .i64 at_] w (fun e w' => e = .returned (.bool (procB k at_ (singB k))) ∧ Below w.heap.size w w') := by
 have hkf := hk.full
 have hbx := codeBox w v k
 cases hok : codeOkI k
 ·
  have HW := Lib.hid (fun W (h : CodeAt W w.heap.size v k) => worldOf_no v k W h hcb (by omega) hok)
  have HZ := Lib.hid (procB_no (G := singB k) (at_ := at_) (and_no1 hok))
  clear hok hcb hk
  go_enter Tryz.func28, Tryz.ntmps28
  go_wp2_with fail
  generalize w.alloc (.cells #[.slice v.gA k.globals.length v.gc, .slice v.lA k.locks.length v.lc, .slice v.pA k.procs.length v.pc, .slice v.eA k.entry.length v.ec, .slice v.iA k.ins.length v.ic] 28) = W at hbx ⊢
  refine (HW.out _ (hkf.below hbx.1)).mono ?_
  rintro e w1 ⟨rfl, hb1⟩
  go_wp2_with fail
  go_ret
  exact ⟨ret_bool HZ.out.symm, below_trans' hbx.1 hb1⟩
 ·
  have hr := right_of hok
  have HW := Lib.hid (fun W (h : CodeAt W w.heap.size v k) => worldOf_yes v k W h hcb (by omega) hok)
  have HS : ∃ b, procB k at_ (singB k) = b ∧ ∀ W g, WAt W W.heap.size g v k → Calls Tryz.prog 103 #[.pointer (some ⟨g, 0, none⟩), .int .i64 at_] W fun e w' => e = .returned (.bool b) ∧ Below W.heap.size W w' := by
   cases hpl : (decide (0 ≤ at_) && decide (at_ < k.procs.length))
   ·
    exact ⟨false, procB_no (and_no2 hpl), fun W g h => single_no g v k at_ W hr h.kat hpl⟩
   ·
    obtain ⟨a, rfl, hal⟩ : ∃ a : Nat, at_ = a ∧ a < k.procs.length := by
     simp only [Bool.and_eq_true, decide_eq_true_eq] at hpl
     exact ⟨at_.toNat, by omega, by omega⟩
    exact ⟨singB k a, procB_yes hok hal, fun W g h => single_any g v k a W hr h hal⟩
  obtain ⟨b, hb, hs⟩ := HS
  have HB := Lib.hid hb
  have HSS := Lib.hid hs
  clear hok hcb hk hr hb hs
  go_enter Tryz.func28, Tryz.ntmps28
  go_wp2_with fail
  generalize w.alloc (.cells #[.slice v.gA k.globals.length v.gc, .slice v.lA k.locks.length v.lc, .slice v.pA k.procs.length v.pc, .slice v.eA k.entry.length v.ec, .slice v.iA k.ins.length v.ic] 28) = W at hbx ⊢
  refine (HW.out _ (hkf.below hbx.1)).mono ?_
  rintro e w1 ⟨g, rfl, hgl, hW, hb1⟩
  go_wp2_with fail
  refine (HSS.out _ _ hW).mono ?_
  rintro e w2 ⟨rfl, hb2⟩
  go_wp2_with fail
  go_ret
  exact ⟨ret_bool HB.out.symm, below_trans' (below_trans' hbx.1 hb1) hb2⟩
theorem l14Single_main {B L : Nat} (v : CV) (k : Cd) (w : World) (hr : Right k) (hk : CodeAt w B v k) (hcb : CdB L k) (hL : L ≤ 1048576) :
  Calls Tryz.prog 106 #[.agg #[.slice v.gA k.globals.length v.gc, .slice v.lA k.locks.length v.lc, .slice v.pA k.procs.length v.pc, .slice v.eA k.entry.length v.ec, .slice v.iA k.ins.length v.ic], .int .i64 (mainN k : Nat)] w fun e w' => e = .returned (.bool (nilB (startsL k (mainN k)))) ∧ Below w.heap.size w w' := by
 have hkf := hk.full
 have hbx := codeBox w v k
 have HM := Lib.hid (fun W (h : CodeAt W w.heap.size v k) => l14Main_any v k W hr h)
 have HS := Lib.hid (fun W (h : CodeAt W w.heap.size v k) => l14Starts_any v k (mainN k) W hr h hcb hL)
 have HL := Lib.hid (startsL_len hr (mainN k))
 clear hk hr hcb
 generalize mainN k = m at *
 go_enter Tryz.func106, Tryz.ntmps106
 go_wp2_with fail
 generalize w.alloc (.cells #[.slice v.gA k.globals.length v.gc, .slice v.lA k.locks.length v.lc, .slice v.pA k.procs.length v.pc, .slice v.eA k.entry.length v.ec, .slice v.iA k.ins.length v.ic] 28) = W at hbx ⊢
 refine (HM.out _ (hkf.below hbx.1)).mono ?_
 rintro e w1 ⟨rfl, hb1⟩
 have hbx1 := hbx.to hb1
 obtain ⟨q1, q2, c0, c1, c2, c3, c4⟩ := id hbx1
 go_wp2_with fail
 refine (HS.out _ (hkf.below q1)).mono ?_
 rintro e w2 ⟨As, cs, rfl, hos, hb2⟩
 have hsl := HL.out
 by_cases h0 : (startsL k m).length = 0
 ·
  have HD := Lib.hid (nilB_yes (nil_len.1 h0))
  have e0 : (((startsL k m).length : Int) == 0) = true := by simp [h0]
  clear h0 c0 c1 c2 c3 c4
  go_wp2_with fail
  go_ret
  exact ⟨ret_bool HD.out.symm, below_trans' q1 hb2⟩
 ·
  have HD := Lib.hid (nilB_no fun h => h0 (nil_len.2 h))
  have e0 : (((startsL k m).length : Int) == 0) = false := by simp [h0]
  clear h0 c0 c1 c2 c3 c4
  go_wp2_with fail
  go_ret
  exact ⟨ret_bool HD.out.symm, below_trans' q1 hb2⟩
theorem l14Single_other {B L : Nat} (v : CV) (k : Cd) (x : Nat) (w : World) (hr : Right k) (hk : CodeAt w B v k) (hcb : CdB L k) (hL : L ≤ 1048576) (hx : x < k.procs.length) (hne : x ≠ mainN k) (hroot : RootP k x) :
  Calls Tryz.prog 106 #[.agg #[.slice v.gA k.globals.length v.gc, .slice v.lA k.locks.length v.lc, .slice v.pA k.procs.length v.pc, .slice v.eA k.entry.length v.ec, .slice v.iA k.ins.length v.ic], .int .i64 x] w fun e w' => e = .returned (.bool (singB k x)) ∧ Below w.heap.size w w' := by
 have hkf := hk.full
 have hbx := codeBox w v k
 have hpl := hr.procs
 have hil := hr.ins
 have HM := Lib.hid (fun W (h : CodeAt W w.heap.size v k) => l14Main_any v k W hr h)
 have HS := Lib.hid (fun W (h : CodeAt W w.heap.size v k) => l14Starts_any v k x W hr h hcb hL)
 have HL := Lib.hid (startsL_len hr x)
 have HPR := Lib.hid (fun W (hb : Below w.heap.size w W) a (ha : a < k.ins.length) => l08Proc_right v k a W hr (hkf.below hb) ha)
 have HRE := Lib.hid (fun W (hb : Below w.heap.size w W) a (ha : a < k.ins.length) => l09Reach_any v k a W hr (hkf.below hb) ha)
 have HSMx := Lib.hid (fun W (hb : Below w.heap.size w W) => l14Single_main v k W hr (hkf.below hb) hcb hL)
 have HUS := Lib.hid (fun W (hb : Below w.heap.size w W) => l14Used_any v k W hr (hkf.below hb))
 have HOP := Lib.hid (fun W (hb : Below w.heap.size w W) p (hp : p < k.procs.length) => l10Ops_any v k p 4 W hr (hkf.below hb) hp (.inl rfl))
 have HSI := Lib.hid (show SingR k x ↔ _ from ⟨fun h => (sing_other hne).1 h.2, fun h => ⟨hroot, (sing_other hne).2 h⟩⟩)
 have hml := mainN_lt hr
 have HUL := Lib.hid (fun p (h : UsedP k p) => used_lt hr h)
 have hb8 : (((x : Nat) : Int) == (mainN k : Nat)) = false := by simp; omega
 clear hk hr hcb hne hroot
 go_enter Tryz.func106, Tryz.ntmps106
 go_wp2_with fail
 generalize w.alloc (.cells #[.slice v.gA k.globals.length v.gc, .slice v.lA k.locks.length v.lc, .slice v.pA k.procs.length v.pc, .slice v.eA k.entry.length v.ec, .slice v.iA k.ins.length v.ic] 28) = W at hbx ⊢
 refine (HM.out _ (hkf.below hbx.1)).mono ?_
 rintro e w1 ⟨rfl, hb1⟩
 have hbx1 := hbx.to hb1
 obtain ⟨q1, q2, c0, c1, c2, c3, c4⟩ := id hbx1
 go_wp2_with fail
 refine (HS.out _ (hkf.below q1)).mono ?_
 rintro e w2 ⟨As, cs, rfl, hos, hb2⟩
 clear c0 c1 c2 c3 c4 q1 q2
 have hbx2 := hbx1.to hb2
 obtain ⟨hb02, q2, c0, c1, c2, c3, c4⟩ := id hbx2
 have hsl := HL.out
 clear hbx hbx1 hb1 hb2
 by_cases h1 : (startsL k x).length = 1
 ·
  obtain ⟨ad, rfl, _, hc⟩ := (own_rd hos).nat (j := 0) (by omega)
  have hal := starts_one h1
  rw [gt_get (by omega)] at hc
  have HS1 := Lib.hid h1
  have hn1 : (((startsL k x).length : Int) != 1) = false := by simp [h1]
  generalize gt (startsL k x) 0 = s0 at *
  have z0 : 0 < (startsL k x).length := by omega
  have z1 : (0 : Int) < ((startsL k x).length : Int) := by omega
  have y1 : (0 : Int) ≤ (s0 : Int) := by omega
  have y2 : (s0 : Int) < (k.ins.length : Int) := by omega
  rw [show ad.add 0 = ad from by simp [Addr.add]] at hc
  clear h1 hos
  by_cases hpm : procN k s0 = mainN k
  ·
   have HPM := Lib.hid hpm
   have hq1 : ((procN k s0 : Int) != (mainN k : Int)) = false := by simp [hpm]
   go_wp2_with fail
   clear hpm
   by_cases hre : Reach (nextL k) s0 s0
   ·
    have HF := Lib.hid (singB_no fun h => (HSI.out.1 h).2.2.1 hre)
    have HRR := Lib.hid hre
    clear hre
    refine wp_region_held_drew (S := fun w' => Below w2.heap.size w2 w') (by kernel_rfl) ((Below.refl _ _).drew) (fun hHeld => ?_)
    first | refine hs_ 0 ?_ | (refine hr_ 0 ?_ ?_ ?_; rotate_left; (intro W hW; obtain ⟨f0, f1, f2, f3, f4, f5⟩ := cb6 hW c0 c1 c2 c3 c4 hc; go_simp; try with_reducible rfl))
    first | refine hs_ 1 ?_ | (refine hr_ 1 ?_ ?_ ?_; rotate_left; (intro W hW; obtain ⟨f0, f1, f2, f3, f4, f5⟩ := cb6 hW c0 c1 c2 c3 c4 hc; go_simp; try with_reducible rfl))
    first | refine hs_ 2 ?_ | (refine hr_ 2 ?_ ?_ ?_; rotate_left; (intro W hW; obtain ⟨f0, f1, f2, f3, f4, f5⟩ := cb6 hW c0 c1 c2 c3 c4 hc; go_simp; try with_reducible rfl))
    first | refine hs_ 3 ?_ | (refine hr_ 3 ?_ ?_ ?_; rotate_left; (intro W hW; obtain ⟨f0, f1, f2, f3, f4, f5⟩ := cb6 hW c0 c1 c2 c3 c4 hc; go_simp; try with_reducible rfl))
    first | refine hs_ 4 ?_ | (refine hr_ 4 ?_ ?_ ?_; rotate_left; (intro W hW; obtain ⟨f0, f1, f2, f3, f4, f5⟩ := cb6 hW c0 c1 c2 c3 c4 hc; go_simp; try with_reducible rfl))
    first | refine hs_ 5 ?_ | (refine hr_ 5 ?_ ?_ ?_; rotate_left; (intro W hW; obtain ⟨f0, f1, f2, f3, f4, f5⟩ := cb6 hW c0 c1 c2 c3 c4 hc; go_simp; try with_reducible rfl))
    first | refine hs_ 6 ?_ | (refine hr_ 6 ?_ ?_ ?_; rotate_left; (intro W hW; obtain ⟨f0, f1, f2, f3, f4, f5⟩ := cb6 hW c0 c1 c2 c3 c4 hc; go_simp; try with_reducible rfl))
    first | refine hs_ 7 ?_ | (refine hr_ 7 ?_ ?_ ?_; rotate_left; (intro W hW; obtain ⟨f0, f1, f2, f3, f4, f5⟩ := cb6 hW c0 c1 c2 c3 c4 hc; go_simp; try with_reducible rfl))
    first | refine hs_ 9 ?_ | (refine hr_ 9 ?_ ?_ ?_; rotate_left; (intro W hW; obtain ⟨f0, f1, f2, f3, f4, f5⟩ := cb6 hW c0 c1 c2 c3 c4 hc; go_simp; try with_reducible rfl))
    refine ho_ 8 fun K hK => ?_
    go_simp
    refine (HPR.out _ (below_trans' hb02 hHeld) s0 hal).mono ?_
    rintro e w5 ⟨rfl, hb5⟩
    refine hk_ hK (below_trans' hHeld hb5) fun hHeld => ?_
    clear hK K
    first | refine hs_ 10 ?_ | (refine hr_ 10 ?_ ?_ ?_; rotate_left; (intro W hW; obtain ⟨f0, f1, f2, f3, f4, f5⟩ := cb6 hW c0 c1 c2 c3 c4 hc; go_simp; try with_reducible rfl))
    first | refine hs_ 11 ?_ | (refine hr_ 11 ?_ ?_ ?_; rotate_left; (intro W hW; obtain ⟨f0, f1, f2, f3, f4, f5⟩ := cb6 hW c0 c1 c2 c3 c4 hc; go_simp; try with_reducible rfl))
    first | refine hs_ 12 ?_ | (refine hr_ 12 ?_ ?_ ?_; rotate_left; (intro W hW; obtain ⟨f0, f1, f2, f3, f4, f5⟩ := cb6 hW c0 c1 c2 c3 c4 hc; go_simp; try with_reducible rfl))
    first | refine hs_ 13 ?_ | (refine hr_ 13 ?_ ?_ ?_; rotate_left; (intro W hW; obtain ⟨f0, f1, f2, f3, f4, f5⟩ := cb6 hW c0 c1 c2 c3 c4 hc; go_simp; try with_reducible rfl))
    first | refine hs_ 14 ?_ | (refine hr_ 14 ?_ ?_ ?_; rotate_left; (intro W hW; obtain ⟨f0, f1, f2, f3, f4, f5⟩ := cb6 hW c0 c1 c2 c3 c4 hc; go_simp; try with_reducible rfl))
    first | refine hs_ 15 ?_ | (refine hr_ 15 ?_ ?_ ?_; rotate_left; (intro W hW; obtain ⟨f0, f1, f2, f3, f4, f5⟩ := cb6 hW c0 c1 c2 c3 c4 hc; go_simp; try with_reducible rfl))
    first | refine hs_ 16 ?_ | (refine hr_ 16 ?_ ?_ ?_; rotate_left; (intro W hW; obtain ⟨f0, f1, f2, f3, f4, f5⟩ := cb6 hW c0 c1 c2 c3 c4 hc; go_simp; try with_reducible rfl))
    first | refine hs_ 18 ?_ | (refine hr_ 18 ?_ ?_ ?_; rotate_left; (intro W hW; obtain ⟨f0, f1, f2, f3, f4, f5⟩ := cb6 hW c0 c1 c2 c3 c4 hc; go_simp; try with_reducible rfl))
    first | refine hs_ 19 ?_ | (refine hr_ 19 ?_ ?_ ?_; rotate_left; (intro W hW; obtain ⟨f0, f1, f2, f3, f4, f5⟩ := cb6 hW c0 c1 c2 c3 c4 hc; go_simp; try with_reducible rfl))
    first | refine hs_ 20 ?_ | (refine hr_ 20 ?_ ?_ ?_; rotate_left; (intro W hW; obtain ⟨f0, f1, f2, f3, f4, f5⟩ := cb6 hW c0 c1 c2 c3 c4 hc; go_simp; try with_reducible rfl))
    refine ho_ 17 fun K hK => ?_
    go_simp
    refine (HRE.out _ (below_trans' hb02 hHeld) s0 hal).mono ?_
    rintro e w6 ⟨Am, cm, rfl, hom, hb6⟩
    obtain ⟨adm, rfl, _, hcm⟩ := (own_rd hom).mark (j := s0) (by rw [markL_len]; exact hal)
    rw [mkd_markL_pos hal HRR.out] at hcm
    rw [markL_len]
    refine hk_ hK (below_trans' hHeld hb6) fun hHeld => ?_
    clear hK K
    first | refine hs_ 21 ?_ | (refine hr_ 21 ?_ ?_ ?_; rotate_left; (intro W hW; obtain ⟨f0, f1, f2, f3, f4, f5⟩ := cb6 hW c0 c1 c2 c3 c4 hc; go_simp; try with_reducible rfl))
    refine ho_ 22 fun K hK => ?_
    go_simp
    skip
    refine hk_ hK (hHeld) fun hHeld => ?_
    clear hK K
    first | refine hs_ 23 ?_ | (refine hr_ 23 ?_ ?_ ?_; rotate_left; (intro W hW; obtain ⟨f0, f1, f2, f3, f4, f5⟩ := cb6 hW c0 c1 c2 c3 c4 hc; go_simp; try with_reducible rfl))
    first | refine hs_ 24 ?_ | (refine hr_ 24 ?_ ?_ ?_; rotate_left; (intro W hW; obtain ⟨f0, f1, f2, f3, f4, f5⟩ := cb6 hW c0 c1 c2 c3 c4 hc; go_simp; try with_reducible rfl))
    first | refine hs_ 25 ?_ | (refine hr_ 25 ?_ ?_ ?_; rotate_left; (intro W hW; obtain ⟨f0, f1, f2, f3, f4, f5⟩ := cb6 hW c0 c1 c2 c3 c4 hc; go_simp; try with_reducible rfl))
    first | refine hs_ 26 ?_ | (refine hr_ 26 ?_ ?_ ?_; rotate_left; (intro W hW; obtain ⟨f0, f1, f2, f3, f4, f5⟩ := cb6 hW c0 c1 c2 c3 c4 hc; go_simp; try with_reducible rfl))
    first | refine hs_ 27 ?_ | (refine hr_ 27 ?_ ?_ ?_; rotate_left; (intro W hW; obtain ⟨f0, f1, f2, f3, f4, f5⟩ := cb6 hW c0 c1 c2 c3 c4 hc; go_simp; try with_reducible rfl))
    first | refine hs_ 28 ?_ | (refine hr_ 28 ?_ ?_ ?_; rotate_left; (intro W hW; obtain ⟨f0, f1, f2, f3, f4, f5⟩ := cb6 hW c0 c1 c2 c3 c4 hc; go_simp; try with_reducible rfl))
    first | refine hs_ 29 ?_ | (refine hr_ 29 ?_ ?_ ?_; rotate_left; (intro W hW; obtain ⟨f0, f1, f2, f3, f4, f5⟩ := cb6 hW c0 c1 c2 c3 c4 hc; go_simp; try with_reducible rfl))
    refine wpAnyH_done (by kernel_rfl) ?_ _
    go_wp2_with fail
    go_ret
    exact ⟨ret_bool HF.out.symm, below_trans' hb02 hHeld⟩
   ·
    have HRR := Lib.hid hre
    clear hre
    by_cases hsm : startsL k (mainN k) = []
    ·
     have HSM := HSMx.out
     rw [nilB_yes hsm] at HSM
     have HSM := Lib.hid HSM
     have HNIL := Lib.hid hsm
     clear hsm
     refine wp_region_held_drew (S := fun w' => Below w2.heap.size w2 w') (by kernel_rfl) ((Below.refl _ _).drew) (fun hHeld => ?_)
     first | refine hs_ 0 ?_ | (refine hr_ 0 ?_ ?_ ?_; rotate_left; (intro W hW; obtain ⟨f0, f1, f2, f3, f4, f5⟩ := cb6 hW c0 c1 c2 c3 c4 hc; go_simp; try with_reducible rfl))
     first | refine hs_ 1 ?_ | (refine hr_ 1 ?_ ?_ ?_; rotate_left; (intro W hW; obtain ⟨f0, f1, f2, f3, f4, f5⟩ := cb6 hW c0 c1 c2 c3 c4 hc; go_simp; try with_reducible rfl))
     first | refine hs_ 2 ?_ | (refine hr_ 2 ?_ ?_ ?_; rotate_left; (intro W hW; obtain ⟨f0, f1, f2, f3, f4, f5⟩ := cb6 hW c0 c1 c2 c3 c4 hc; go_simp; try with_reducible rfl))
     first | refine hs_ 3 ?_ | (refine hr_ 3 ?_ ?_ ?_; rotate_left; (intro W hW; obtain ⟨f0, f1, f2, f3, f4, f5⟩ := cb6 hW c0 c1 c2 c3 c4 hc; go_simp; try with_reducible rfl))
     first | refine hs_ 4 ?_ | (refine hr_ 4 ?_ ?_ ?_; rotate_left; (intro W hW; obtain ⟨f0, f1, f2, f3, f4, f5⟩ := cb6 hW c0 c1 c2 c3 c4 hc; go_simp; try with_reducible rfl))
     first | refine hs_ 5 ?_ | (refine hr_ 5 ?_ ?_ ?_; rotate_left; (intro W hW; obtain ⟨f0, f1, f2, f3, f4, f5⟩ := cb6 hW c0 c1 c2 c3 c4 hc; go_simp; try with_reducible rfl))
     first | refine hs_ 6 ?_ | (refine hr_ 6 ?_ ?_ ?_; rotate_left; (intro W hW; obtain ⟨f0, f1, f2, f3, f4, f5⟩ := cb6 hW c0 c1 c2 c3 c4 hc; go_simp; try with_reducible rfl))
     first | refine hs_ 7 ?_ | (refine hr_ 7 ?_ ?_ ?_; rotate_left; (intro W hW; obtain ⟨f0, f1, f2, f3, f4, f5⟩ := cb6 hW c0 c1 c2 c3 c4 hc; go_simp; try with_reducible rfl))
     first | refine hs_ 9 ?_ | (refine hr_ 9 ?_ ?_ ?_; rotate_left; (intro W hW; obtain ⟨f0, f1, f2, f3, f4, f5⟩ := cb6 hW c0 c1 c2 c3 c4 hc; go_simp; try with_reducible rfl))
     refine ho_ 8 fun K hK => ?_
     go_simp
     refine (HPR.out _ (below_trans' hb02 hHeld) s0 hal).mono ?_
     rintro e w5 ⟨rfl, hb5⟩
     refine hk_ hK (below_trans' hHeld hb5) fun hHeld => ?_
     clear hK K
     first | refine hs_ 10 ?_ | (refine hr_ 10 ?_ ?_ ?_; rotate_left; (intro W hW; obtain ⟨f0, f1, f2, f3, f4, f5⟩ := cb6 hW c0 c1 c2 c3 c4 hc; go_simp; try with_reducible rfl))
     first | refine hs_ 11 ?_ | (refine hr_ 11 ?_ ?_ ?_; rotate_left; (intro W hW; obtain ⟨f0, f1, f2, f3, f4, f5⟩ := cb6 hW c0 c1 c2 c3 c4 hc; go_simp; try with_reducible rfl))
     first | refine hs_ 12 ?_ | (refine hr_ 12 ?_ ?_ ?_; rotate_left; (intro W hW; obtain ⟨f0, f1, f2, f3, f4, f5⟩ := cb6 hW c0 c1 c2 c3 c4 hc; go_simp; try with_reducible rfl))
     first | refine hs_ 13 ?_ | (refine hr_ 13 ?_ ?_ ?_; rotate_left; (intro W hW; obtain ⟨f0, f1, f2, f3, f4, f5⟩ := cb6 hW c0 c1 c2 c3 c4 hc; go_simp; try with_reducible rfl))
     first | refine hs_ 14 ?_ | (refine hr_ 14 ?_ ?_ ?_; rotate_left; (intro W hW; obtain ⟨f0, f1, f2, f3, f4, f5⟩ := cb6 hW c0 c1 c2 c3 c4 hc; go_simp; try with_reducible rfl))
     first | refine hs_ 15 ?_ | (refine hr_ 15 ?_ ?_ ?_; rotate_left; (intro W hW; obtain ⟨f0, f1, f2, f3, f4, f5⟩ := cb6 hW c0 c1 c2 c3 c4 hc; go_simp; try with_reducible rfl))
     first | refine hs_ 16 ?_ | (refine hr_ 16 ?_ ?_ ?_; rotate_left; (intro W hW; obtain ⟨f0, f1, f2, f3, f4, f5⟩ := cb6 hW c0 c1 c2 c3 c4 hc; go_simp; try with_reducible rfl))
     first | refine hs_ 18 ?_ | (refine hr_ 18 ?_ ?_ ?_; rotate_left; (intro W hW; obtain ⟨f0, f1, f2, f3, f4, f5⟩ := cb6 hW c0 c1 c2 c3 c4 hc; go_simp; try with_reducible rfl))
     first | refine hs_ 19 ?_ | (refine hr_ 19 ?_ ?_ ?_; rotate_left; (intro W hW; obtain ⟨f0, f1, f2, f3, f4, f5⟩ := cb6 hW c0 c1 c2 c3 c4 hc; go_simp; try with_reducible rfl))
     first | refine hs_ 20 ?_ | (refine hr_ 20 ?_ ?_ ?_; rotate_left; (intro W hW; obtain ⟨f0, f1, f2, f3, f4, f5⟩ := cb6 hW c0 c1 c2 c3 c4 hc; go_simp; try with_reducible rfl))
     refine ho_ 17 fun K hK => ?_
     go_simp
     refine (HRE.out _ (below_trans' hb02 hHeld) s0 hal).mono ?_
     rintro e w6 ⟨Am, cm, rfl, hom, hb6⟩
     obtain ⟨adm, rfl, _, hcm⟩ := (own_rd hom).mark (j := s0) (by rw [markL_len]; exact hal)
     rw [mkd_markL_neg HRR.out] at hcm
     rw [markL_len]
     refine hk_ hK (below_trans' hHeld hb6) fun hHeld => ?_
     clear hK K
     first | refine hs_ 21 ?_ | (refine hr_ 21 ?_ ?_ ?_; rotate_left; (intro W hW; obtain ⟨f0, f1, f2, f3, f4, f5⟩ := cb6 hW c0 c1 c2 c3 c4 hc; go_simp; try with_reducible rfl))
     refine ho_ 22 fun K hK => ?_
     go_simp
     skip
     refine hk_ hK (hHeld) fun hHeld => ?_
     clear hK K
     first | refine hs_ 23 ?_ | (refine hr_ 23 ?_ ?_ ?_; rotate_left; (intro W hW; obtain ⟨f0, f1, f2, f3, f4, f5⟩ := cb6 hW c0 c1 c2 c3 c4 hc; go_simp; try with_reducible rfl))
     first | refine hs_ 24 ?_ | (refine hr_ 24 ?_ ?_ ?_; rotate_left; (intro W hW; obtain ⟨f0, f1, f2, f3, f4, f5⟩ := cb6 hW c0 c1 c2 c3 c4 hc; go_simp; try with_reducible rfl))
     first | refine hs_ 25 ?_ | (refine hr_ 25 ?_ ?_ ?_; rotate_left; (intro W hW; obtain ⟨f0, f1, f2, f3, f4, f5⟩ := cb6 hW c0 c1 c2 c3 c4 hc; go_simp; try with_reducible rfl))
     first | refine hs_ 26 ?_ | (refine hr_ 26 ?_ ?_ ?_; rotate_left; (intro W hW; obtain ⟨f0, f1, f2, f3, f4, f5⟩ := cb6 hW c0 c1 c2 c3 c4 hc; go_simp; try with_reducible rfl))
     refine ho_ 27 fun K hK => ?_
     go_simp
     refine (HSM.out _ (below_trans' hb02 hHeld)).mono ?_
     rintro e w7 ⟨rfl, hb7⟩
     refine hk_ hK (below_trans' hHeld hb7) fun hHeld => ?_
     clear hK K
     first | refine hs_ 28 ?_ | (refine hr_ 28 ?_ ?_ ?_; rotate_left; (intro W hW; obtain ⟨f0, f1, f2, f3, f4, f5⟩ := cb6 hW c0 c1 c2 c3 c4 hc; go_simp; try with_reducible rfl))
     first | refine hs_ 29 ?_ | (refine hr_ 29 ?_ ?_ ?_; rotate_left; (intro W hW; obtain ⟨f0, f1, f2, f3, f4, f5⟩ := cb6 hW c0 c1 c2 c3 c4 hc; go_simp; try with_reducible rfl))
     refine wpAnyH_done (by kernel_rfl) ?_ _
     have hbw := below_trans' hb02 hHeld
     have hbx7 := hbx2.to hHeld
     clear c0 c1 c2 c3 c4 hc hcm hom hHeld
     obtain ⟨q1, q3, c0, c1, c2, c3, c4⟩ := id hbx7
     go_wp2_with fail
     refine (HUS.out _ hbw).mono ?_
     rintro e w8 ⟨Au, cu, rfl, hou, hb8'⟩
     rw [markL_len] at hou ⊢
     have hru := own_rd hou
     have hbx8 := hbx7.to hb8'
     clear c0 c1 c2 c3 c4 q1 q3 hou hbx7
     go_wp2_with fail
     go_loopg [8] k.procs.length (fun l i wr => ∃ p : Nat, p ≤ k.procs.length ∧ l = k.procs.length - p ∧ i = .int .i64 p ∧ (∀ q, q < p → UsedP k q → ¬ OpsP k 4 q (mainN k)) ∧ Below w8.heap.size w8 wr)
     case atStart => exact ⟨0, by omega, by omega, rfl, fun q hq => by omega, Below.refl _ _⟩
     case round =>
      obtain ⟨p, hp, rfl, rfl, hall, hb⟩ := hrel
      have HALL := Lib.hid hall
      clear hall
      have hbxr := hbx8.to hb
      obtain ⟨q1, q3, c0, c1, c2, c3, c4⟩ := id hbxr
      by_cases hlt : p < k.procs.length
      ·
       obtain ⟨adu, rfl, _, hcu⟩ := (hru.below hb).mark (j := p) (by rw [markL_len]; exact hlt)
       have y3 : (0 : Int) ≤ (p : Int) := by omega
       have y4 : (p : Int) < (k.procs.length : Int) := by omega
       by_cases hus : UsedP k p
       ·
        rw [mkd_markL_pos hlt hus] at hcu
        have HMEM := Lib.hid (show mainN k ∈ listN k.procs.length (OpsP k 4 p) ↔ OpsP k 4 p (mainN k) from by rw [mem_listN]; exact ⟨fun h => h.2, fun h => ⟨hml, h⟩⟩)
        have hnl := listN_len k.procs.length (OpsP k 4 p)
        have HUS1 := Lib.hid hus
        clear hus
        have HOPP := Lib.hid (HOP.out _ q1 p hlt)
        generalize listN k.procs.length (OpsP k 4 p) = ns at *
        go_wp2_with fail
        refine HOPP.out.mono ?_
        rintro e w9 ⟨An, cn, rfl, hon, hb9⟩
        have HH := Lib.hid (l09Has_any An cn ns (mainN k) w9 (own_rd hon) (by omega))
        go_wp2_with fail
        refine HH.out.mono ?_
        rintro e w10 ⟨rfl, hb10⟩
        by_cases he : mainN k ∈ ns
        ·
         have ed : decide (mainN k ∈ ns) = true := by simpa using he
         rw [ed]
         have HF := Lib.hid (singB_no fun h => (HSI.out.1 h).2.2.2.2 p HUS1.out (HMEM.out.1 he))
         clear he ed
         go_wp2_with fail
         go_ret
         exact ⟨ret_bool HF.out.symm, below_trans' (below_trans' q1 hb9) hb10⟩
        ·
         have ed : decide (mainN k ∈ ns) = false := by simpa using he
         rw [ed]
         have HN := Lib.hid (fun h => he (HMEM.out.2 h))
         clear he ed
         go_wp2_with fail
         go_roundg (k.procs.length - (p + 1))
         case measure => omega
         case rel =>
          refine ⟨p + 1, by omega, rfl, by go_num, fun q hq hu => ?_, below_trans' (below_trans' hb hb9) hb10⟩
          rcases Nat.lt_or_ge q p with h4 | h4
          ·
           exact HALL.out q h4 hu
          ·
           have e : q = p := by omega
           subst e
           exact HN.out
       ·
        rw [mkd_markL_neg hus] at hcu
        have HUS1 := Lib.hid hus
        clear hus
        go_wp2_with fail
        go_roundg (k.procs.length - (p + 1))
        case measure => omega
        case rel =>
         refine ⟨p + 1, by omega, rfl, by go_num, fun q hq hu => ?_, hb⟩
         rcases Nat.lt_or_ge q p with h4 | h4
         ·
          exact HALL.out q h4 hu
         ·
          have e : q = p := by omega
          subst e
          exact absurd hu HUS1.out
      ·
       obtain rfl : p = k.procs.length := by omega
       have HF := Lib.hid (singB_yes (HSI.out.2 ⟨HS1.out, HPM.out, HRR.out, HNIL.out, fun q hu => HALL.out q (HUL.out q hu) hu⟩))
       go_wp2_with fail
       go_ret
       exact ⟨ret_bool HF.out.symm, q1⟩
    ·
     have HF := Lib.hid (singB_no fun h => hsm (HSI.out.1 h).2.2.2.1)
     have HSM := HSMx.out
     rw [nilB_no hsm] at HSM
     have HSM := Lib.hid HSM
     clear hsm
     refine wp_region_held_drew (S := fun w' => Below w2.heap.size w2 w') (by kernel_rfl) ((Below.refl _ _).drew) (fun hHeld => ?_)
     first | refine hs_ 0 ?_ | (refine hr_ 0 ?_ ?_ ?_; rotate_left; (intro W hW; obtain ⟨f0, f1, f2, f3, f4, f5⟩ := cb6 hW c0 c1 c2 c3 c4 hc; go_simp; try with_reducible rfl))
     first | refine hs_ 1 ?_ | (refine hr_ 1 ?_ ?_ ?_; rotate_left; (intro W hW; obtain ⟨f0, f1, f2, f3, f4, f5⟩ := cb6 hW c0 c1 c2 c3 c4 hc; go_simp; try with_reducible rfl))
     first | refine hs_ 2 ?_ | (refine hr_ 2 ?_ ?_ ?_; rotate_left; (intro W hW; obtain ⟨f0, f1, f2, f3, f4, f5⟩ := cb6 hW c0 c1 c2 c3 c4 hc; go_simp; try with_reducible rfl))
     first | refine hs_ 3 ?_ | (refine hr_ 3 ?_ ?_ ?_; rotate_left; (intro W hW; obtain ⟨f0, f1, f2, f3, f4, f5⟩ := cb6 hW c0 c1 c2 c3 c4 hc; go_simp; try with_reducible rfl))
     first | refine hs_ 4 ?_ | (refine hr_ 4 ?_ ?_ ?_; rotate_left; (intro W hW; obtain ⟨f0, f1, f2, f3, f4, f5⟩ := cb6 hW c0 c1 c2 c3 c4 hc; go_simp; try with_reducible rfl))
     first | refine hs_ 5 ?_ | (refine hr_ 5 ?_ ?_ ?_; rotate_left; (intro W hW; obtain ⟨f0, f1, f2, f3, f4, f5⟩ := cb6 hW c0 c1 c2 c3 c4 hc; go_simp; try with_reducible rfl))
     first | refine hs_ 6 ?_ | (refine hr_ 6 ?_ ?_ ?_; rotate_left; (intro W hW; obtain ⟨f0, f1, f2, f3, f4, f5⟩ := cb6 hW c0 c1 c2 c3 c4 hc; go_simp; try with_reducible rfl))
     first | refine hs_ 7 ?_ | (refine hr_ 7 ?_ ?_ ?_; rotate_left; (intro W hW; obtain ⟨f0, f1, f2, f3, f4, f5⟩ := cb6 hW c0 c1 c2 c3 c4 hc; go_simp; try with_reducible rfl))
     first | refine hs_ 9 ?_ | (refine hr_ 9 ?_ ?_ ?_; rotate_left; (intro W hW; obtain ⟨f0, f1, f2, f3, f4, f5⟩ := cb6 hW c0 c1 c2 c3 c4 hc; go_simp; try with_reducible rfl))
     refine ho_ 8 fun K hK => ?_
     go_simp
     refine (HPR.out _ (below_trans' hb02 hHeld) s0 hal).mono ?_
     rintro e w5 ⟨rfl, hb5⟩
     refine hk_ hK (below_trans' hHeld hb5) fun hHeld => ?_
     clear hK K
     first | refine hs_ 10 ?_ | (refine hr_ 10 ?_ ?_ ?_; rotate_left; (intro W hW; obtain ⟨f0, f1, f2, f3, f4, f5⟩ := cb6 hW c0 c1 c2 c3 c4 hc; go_simp; try with_reducible rfl))
     first | refine hs_ 11 ?_ | (refine hr_ 11 ?_ ?_ ?_; rotate_left; (intro W hW; obtain ⟨f0, f1, f2, f3, f4, f5⟩ := cb6 hW c0 c1 c2 c3 c4 hc; go_simp; try with_reducible rfl))
     first | refine hs_ 12 ?_ | (refine hr_ 12 ?_ ?_ ?_; rotate_left; (intro W hW; obtain ⟨f0, f1, f2, f3, f4, f5⟩ := cb6 hW c0 c1 c2 c3 c4 hc; go_simp; try with_reducible rfl))
     first | refine hs_ 13 ?_ | (refine hr_ 13 ?_ ?_ ?_; rotate_left; (intro W hW; obtain ⟨f0, f1, f2, f3, f4, f5⟩ := cb6 hW c0 c1 c2 c3 c4 hc; go_simp; try with_reducible rfl))
     first | refine hs_ 14 ?_ | (refine hr_ 14 ?_ ?_ ?_; rotate_left; (intro W hW; obtain ⟨f0, f1, f2, f3, f4, f5⟩ := cb6 hW c0 c1 c2 c3 c4 hc; go_simp; try with_reducible rfl))
     first | refine hs_ 15 ?_ | (refine hr_ 15 ?_ ?_ ?_; rotate_left; (intro W hW; obtain ⟨f0, f1, f2, f3, f4, f5⟩ := cb6 hW c0 c1 c2 c3 c4 hc; go_simp; try with_reducible rfl))
     first | refine hs_ 16 ?_ | (refine hr_ 16 ?_ ?_ ?_; rotate_left; (intro W hW; obtain ⟨f0, f1, f2, f3, f4, f5⟩ := cb6 hW c0 c1 c2 c3 c4 hc; go_simp; try with_reducible rfl))
     first | refine hs_ 18 ?_ | (refine hr_ 18 ?_ ?_ ?_; rotate_left; (intro W hW; obtain ⟨f0, f1, f2, f3, f4, f5⟩ := cb6 hW c0 c1 c2 c3 c4 hc; go_simp; try with_reducible rfl))
     first | refine hs_ 19 ?_ | (refine hr_ 19 ?_ ?_ ?_; rotate_left; (intro W hW; obtain ⟨f0, f1, f2, f3, f4, f5⟩ := cb6 hW c0 c1 c2 c3 c4 hc; go_simp; try with_reducible rfl))
     first | refine hs_ 20 ?_ | (refine hr_ 20 ?_ ?_ ?_; rotate_left; (intro W hW; obtain ⟨f0, f1, f2, f3, f4, f5⟩ := cb6 hW c0 c1 c2 c3 c4 hc; go_simp; try with_reducible rfl))
     refine ho_ 17 fun K hK => ?_
     go_simp
     refine (HRE.out _ (below_trans' hb02 hHeld) s0 hal).mono ?_
     rintro e w6 ⟨Am, cm, rfl, hom, hb6⟩
     obtain ⟨adm, rfl, _, hcm⟩ := (own_rd hom).mark (j := s0) (by rw [markL_len]; exact hal)
     rw [mkd_markL_neg HRR.out] at hcm
     rw [markL_len]
     refine hk_ hK (below_trans' hHeld hb6) fun hHeld => ?_
     clear hK K
     first | refine hs_ 21 ?_ | (refine hr_ 21 ?_ ?_ ?_; rotate_left; (intro W hW; obtain ⟨f0, f1, f2, f3, f4, f5⟩ := cb6 hW c0 c1 c2 c3 c4 hc; go_simp; try with_reducible rfl))
     refine ho_ 22 fun K hK => ?_
     go_simp
     skip
     refine hk_ hK (hHeld) fun hHeld => ?_
     clear hK K
     first | refine hs_ 23 ?_ | (refine hr_ 23 ?_ ?_ ?_; rotate_left; (intro W hW; obtain ⟨f0, f1, f2, f3, f4, f5⟩ := cb6 hW c0 c1 c2 c3 c4 hc; go_simp; try with_reducible rfl))
     first | refine hs_ 24 ?_ | (refine hr_ 24 ?_ ?_ ?_; rotate_left; (intro W hW; obtain ⟨f0, f1, f2, f3, f4, f5⟩ := cb6 hW c0 c1 c2 c3 c4 hc; go_simp; try with_reducible rfl))
     first | refine hs_ 25 ?_ | (refine hr_ 25 ?_ ?_ ?_; rotate_left; (intro W hW; obtain ⟨f0, f1, f2, f3, f4, f5⟩ := cb6 hW c0 c1 c2 c3 c4 hc; go_simp; try with_reducible rfl))
     first | refine hs_ 26 ?_ | (refine hr_ 26 ?_ ?_ ?_; rotate_left; (intro W hW; obtain ⟨f0, f1, f2, f3, f4, f5⟩ := cb6 hW c0 c1 c2 c3 c4 hc; go_simp; try with_reducible rfl))
     refine ho_ 27 fun K hK => ?_
     go_simp
     refine (HSM.out _ (below_trans' hb02 hHeld)).mono ?_
     rintro e w7 ⟨rfl, hb7⟩
     refine hk_ hK (below_trans' hHeld hb7) fun hHeld => ?_
     clear hK K
     first | refine hs_ 28 ?_ | (refine hr_ 28 ?_ ?_ ?_; rotate_left; (intro W hW; obtain ⟨f0, f1, f2, f3, f4, f5⟩ := cb6 hW c0 c1 c2 c3 c4 hc; go_simp; try with_reducible rfl))
     first | refine hs_ 29 ?_ | (refine hr_ 29 ?_ ?_ ?_; rotate_left; (intro W hW; obtain ⟨f0, f1, f2, f3, f4, f5⟩ := cb6 hW c0 c1 c2 c3 c4 hc; go_simp; try with_reducible rfl))
     refine wpAnyH_done (by kernel_rfl) ?_ _
     go_wp2_with fail
     go_ret
     exact ⟨ret_bool HF.out.symm, below_trans' hb02 hHeld⟩
  ·
   have HPM := Lib.hid hpm
   have HF := Lib.hid (singB_no fun h => HPM.out (HSI.out.1 h).2.1)
   have hq1 : ((procN k s0 : Int) != (mainN k : Int)) = true := by simp; omega
   clear hpm
   go_wp2_with fail
   refine wp_region_held_drew (S := fun w' => Below w2.heap.size w2 w') (by kernel_rfl) ((Below.refl _ _).drew) (fun hHeld => ?_)
   first | refine hs_ 0 ?_ | (refine hr_ 0 ?_ ?_ ?_; rotate_left; (intro W hW; obtain ⟨f0, f1, f2, f3, f4, f5⟩ := cb6 hW c0 c1 c2 c3 c4 hc; go_simp; try with_reducible rfl))
   first | refine hs_ 1 ?_ | (refine hr_ 1 ?_ ?_ ?_; rotate_left; (intro W hW; obtain ⟨f0, f1, f2, f3, f4, f5⟩ := cb6 hW c0 c1 c2 c3 c4 hc; go_simp; try with_reducible rfl))
   first | refine hs_ 2 ?_ | (refine hr_ 2 ?_ ?_ ?_; rotate_left; (intro W hW; obtain ⟨f0, f1, f2, f3, f4, f5⟩ := cb6 hW c0 c1 c2 c3 c4 hc; go_simp; try with_reducible rfl))
   first | refine hs_ 3 ?_ | (refine hr_ 3 ?_ ?_ ?_; rotate_left; (intro W hW; obtain ⟨f0, f1, f2, f3, f4, f5⟩ := cb6 hW c0 c1 c2 c3 c4 hc; go_simp; try with_reducible rfl))
   first | refine hs_ 4 ?_ | (refine hr_ 4 ?_ ?_ ?_; rotate_left; (intro W hW; obtain ⟨f0, f1, f2, f3, f4, f5⟩ := cb6 hW c0 c1 c2 c3 c4 hc; go_simp; try with_reducible rfl))
   first | refine hs_ 5 ?_ | (refine hr_ 5 ?_ ?_ ?_; rotate_left; (intro W hW; obtain ⟨f0, f1, f2, f3, f4, f5⟩ := cb6 hW c0 c1 c2 c3 c4 hc; go_simp; try with_reducible rfl))
   first | refine hs_ 6 ?_ | (refine hr_ 6 ?_ ?_ ?_; rotate_left; (intro W hW; obtain ⟨f0, f1, f2, f3, f4, f5⟩ := cb6 hW c0 c1 c2 c3 c4 hc; go_simp; try with_reducible rfl))
   first | refine hs_ 7 ?_ | (refine hr_ 7 ?_ ?_ ?_; rotate_left; (intro W hW; obtain ⟨f0, f1, f2, f3, f4, f5⟩ := cb6 hW c0 c1 c2 c3 c4 hc; go_simp; try with_reducible rfl))
   first | refine hs_ 9 ?_ | (refine hr_ 9 ?_ ?_ ?_; rotate_left; (intro W hW; obtain ⟨f0, f1, f2, f3, f4, f5⟩ := cb6 hW c0 c1 c2 c3 c4 hc; go_simp; try with_reducible rfl))
   refine ho_ 8 fun K hK => ?_
   go_simp
   refine (HPR.out _ (below_trans' hb02 hHeld) s0 hal).mono ?_
   rintro e w5 ⟨rfl, hb5⟩
   refine hk_ hK (below_trans' hHeld hb5) fun hHeld => ?_
   clear hK K
   first | refine hs_ 10 ?_ | (refine hr_ 10 ?_ ?_ ?_; rotate_left; (intro W hW; obtain ⟨f0, f1, f2, f3, f4, f5⟩ := cb6 hW c0 c1 c2 c3 c4 hc; go_simp; try with_reducible rfl))
   first | refine hs_ 11 ?_ | (refine hr_ 11 ?_ ?_ ?_; rotate_left; (intro W hW; obtain ⟨f0, f1, f2, f3, f4, f5⟩ := cb6 hW c0 c1 c2 c3 c4 hc; go_simp; try with_reducible rfl))
   first | refine hs_ 12 ?_ | (refine hr_ 12 ?_ ?_ ?_; rotate_left; (intro W hW; obtain ⟨f0, f1, f2, f3, f4, f5⟩ := cb6 hW c0 c1 c2 c3 c4 hc; go_simp; try with_reducible rfl))
   first | refine hs_ 13 ?_ | (refine hr_ 13 ?_ ?_ ?_; rotate_left; (intro W hW; obtain ⟨f0, f1, f2, f3, f4, f5⟩ := cb6 hW c0 c1 c2 c3 c4 hc; go_simp; try with_reducible rfl))
   first | refine hs_ 14 ?_ | (refine hr_ 14 ?_ ?_ ?_; rotate_left; (intro W hW; obtain ⟨f0, f1, f2, f3, f4, f5⟩ := cb6 hW c0 c1 c2 c3 c4 hc; go_simp; try with_reducible rfl))
   first | refine hs_ 15 ?_ | (refine hr_ 15 ?_ ?_ ?_; rotate_left; (intro W hW; obtain ⟨f0, f1, f2, f3, f4, f5⟩ := cb6 hW c0 c1 c2 c3 c4 hc; go_simp; try with_reducible rfl))
   first | refine hs_ 16 ?_ | (refine hr_ 16 ?_ ?_ ?_; rotate_left; (intro W hW; obtain ⟨f0, f1, f2, f3, f4, f5⟩ := cb6 hW c0 c1 c2 c3 c4 hc; go_simp; try with_reducible rfl))
   first | refine hs_ 18 ?_ | (refine hr_ 18 ?_ ?_ ?_; rotate_left; (intro W hW; obtain ⟨f0, f1, f2, f3, f4, f5⟩ := cb6 hW c0 c1 c2 c3 c4 hc; go_simp; try with_reducible rfl))
   first | refine hs_ 19 ?_ | (refine hr_ 19 ?_ ?_ ?_; rotate_left; (intro W hW; obtain ⟨f0, f1, f2, f3, f4, f5⟩ := cb6 hW c0 c1 c2 c3 c4 hc; go_simp; try with_reducible rfl))
   first | refine hs_ 20 ?_ | (refine hr_ 20 ?_ ?_ ?_; rotate_left; (intro W hW; obtain ⟨f0, f1, f2, f3, f4, f5⟩ := cb6 hW c0 c1 c2 c3 c4 hc; go_simp; try with_reducible rfl))
   first | refine hs_ 17 ?_ | (refine hr_ 17 ?_ ?_ ?_; rotate_left; (intro W hW; obtain ⟨f0, f1, f2, f3, f4, f5⟩ := cb6 hW c0 c1 c2 c3 c4 hc; go_simp; try with_reducible rfl))
   first | refine hs_ 21 ?_ | (refine hr_ 21 ?_ ?_ ?_; rotate_left; (intro W hW; obtain ⟨f0, f1, f2, f3, f4, f5⟩ := cb6 hW c0 c1 c2 c3 c4 hc; go_simp; try with_reducible rfl))
   first | refine hs_ 22 ?_ | (refine hr_ 22 ?_ ?_ ?_; rotate_left; (intro W hW; obtain ⟨f0, f1, f2, f3, f4, f5⟩ := cb6 hW c0 c1 c2 c3 c4 hc; go_simp; try with_reducible rfl))
   first | refine hs_ 23 ?_ | (refine hr_ 23 ?_ ?_ ?_; rotate_left; (intro W hW; obtain ⟨f0, f1, f2, f3, f4, f5⟩ := cb6 hW c0 c1 c2 c3 c4 hc; go_simp; try with_reducible rfl))
   first | refine hs_ 24 ?_ | (refine hr_ 24 ?_ ?_ ?_; rotate_left; (intro W hW; obtain ⟨f0, f1, f2, f3, f4, f5⟩ := cb6 hW c0 c1 c2 c3 c4 hc; go_simp; try with_reducible rfl))
   first | refine hs_ 25 ?_ | (refine hr_ 25 ?_ ?_ ?_; rotate_left; (intro W hW; obtain ⟨f0, f1, f2, f3, f4, f5⟩ := cb6 hW c0 c1 c2 c3 c4 hc; go_simp; try with_reducible rfl))
   first | refine hs_ 26 ?_ | (refine hr_ 26 ?_ ?_ ?_; rotate_left; (intro W hW; obtain ⟨f0, f1, f2, f3, f4, f5⟩ := cb6 hW c0 c1 c2 c3 c4 hc; go_simp; try with_reducible rfl))
   first | refine hs_ 27 ?_ | (refine hr_ 27 ?_ ?_ ?_; rotate_left; (intro W hW; obtain ⟨f0, f1, f2, f3, f4, f5⟩ := cb6 hW c0 c1 c2 c3 c4 hc; go_simp; try with_reducible rfl))
   first | refine hs_ 28 ?_ | (refine hr_ 28 ?_ ?_ ?_; rotate_left; (intro W hW; obtain ⟨f0, f1, f2, f3, f4, f5⟩ := cb6 hW c0 c1 c2 c3 c4 hc; go_simp; try with_reducible rfl))
   first | refine hs_ 29 ?_ | (refine hr_ 29 ?_ ?_ ?_; rotate_left; (intro W hW; obtain ⟨f0, f1, f2, f3, f4, f5⟩ := cb6 hW c0 c1 c2 c3 c4 hc; go_simp; try with_reducible rfl))
   refine wpAnyH_done (by kernel_rfl) ?_ _
   go_wp2_with fail
   go_ret
   exact ⟨ret_bool HF.out.symm, below_trans' hb02 hHeld⟩
 ·
  have hn1 : (((startsL k x).length : Int) != 1) = true := by simp; omega
  have HF := Lib.hid (singB_no fun h => h1 (HSI.out.1 h).1)
  clear h1
  go_wp2_with fail
  go_quiet (fail)
  go_wp2_with fail
  go_ret
  exact ⟨ret_bool HF.out.symm, below_trans' hb02 (below_drewN (Below.refl _ _) _)⟩
theorem l14Single_any {B L : Nat} (v : CV) (k : Cd) (x : Nat) (w : World) (hr : Right k) (hk : CodeAt w B v k) (hcb : CdB L k) (hL : L ≤ 1048576) (hx : x < k.procs.length) (hroot : RootP k x) :
  Calls Tryz.prog 106 #[.agg #[.slice v.gA k.globals.length v.gc, .slice v.lA k.locks.length v.lc, .slice v.pA k.procs.length v.pc, .slice v.eA k.entry.length v.ec, .slice v.iA k.ins.length v.ic], .int .i64 x] w fun e w' => e = .returned (.bool (singB k x)) ∧ Below w.heap.size w w' := by
 by_cases hm : x = mainN k
 ·
  subst hm
  have := l14Single_main v k w hr hk hcb hL
  rw [nilB_sing] at this
  exact this
 ·
  exact l14Single_other v k x w hr hk hcb hL hx hm hroot
theorem single_s {B L : Nat} (v : CV) (k : Cd) (at_ : Int) (w : World) (hk : CodeAt w B v k) (hcb : CdB L k) (hL : L ≤ 1048576) :
  Calls Tryz.prog 29 #[.agg #[.slice v.gA k.globals.length v.gc, .slice v.lA k.locks.length v.lc, .slice v.pA k.procs.length v.pc, .slice v.eA k.entry.length v.ec, .slice v.iA k.ins.length v.ic], .int .i64 at_] w (fun e w' => e = .returned (.bool (procB k at_ (singB k))) ∧ Below w.heap.size w w') := by
 have hkf := hk.full
 have hbx := codeBox w v k
 have hpl0 := hcb.procs
 have hil0 := hcb.ins
 have HG := Lib.hid (fun W (h : CodeAt W w.heap.size v k) => l10Ok_any v k at_ W h hcb (by omega))
 cases hok : (codeOkI k && (decide (0 ≤ at_) && decide (at_ < k.procs.length)))
 ·
  have HZ := Lib.hid (show ∀ w', Below w.heap.size w w' → Ending.returned (.bool false) = .returned (.bool (procB k at_ (singB k))) ∧ Below w.heap.size w w' from fun w' h => ⟨by rw [procB_no hok], h⟩)
  rw [hok] at HG
  clear hok hcb hk
  go_enter Tryz.func29, Tryz.ntmps29
  go_wp2_with fail
  generalize w.alloc (.cells #[.slice v.gA k.globals.length v.gc, .slice v.lA k.locks.length v.lc, .slice v.pA k.procs.length v.pc, .slice v.eA k.entry.length v.ec, .slice v.iA k.ins.length v.ic] 28) = W at hbx ⊢
  refine (HG.out _ (hkf.below hbx.1)).mono ?_
  rintro e w1 ⟨rfl, hb1⟩
  go_wp2_with fail
  go_ret
  exact HZ.out _ (below_trans' hbx.1 hb1)
 ·
  rw [hok] at HG
  obtain ⟨hok1, a, rfl, hal⟩ : codeOkI k = true ∧ ∃ a : Nat, at_ = a ∧ a < k.procs.length := by
   simp only [Bool.and_eq_true, decide_eq_true_eq] at hok
   exact ⟨hok.1, at_.toNat, by omega, by omega⟩
  have HR := Lib.hid (right_of hok1)
  have HY := Lib.hid (procB_yes (G := singB k) hok1 hal)
  have HCB := Lib.hid hcb
  clear hok hok1 hcb hk
  go_enter Tryz.func29, Tryz.ntmps29
  go_wp2_with fail
  generalize w.alloc (.cells #[.slice v.gA k.globals.length v.gc, .slice v.lA k.locks.length v.lc, .slice v.pA k.procs.length v.pc, .slice v.eA k.entry.length v.ec, .slice v.iA k.ins.length v.ic] 28) = W at hbx ⊢
  refine (HG.out _ (hkf.below hbx.1)).mono ?_
  rintro e w2 ⟨rfl, hb2⟩
  have hbx2 := hbx.to hb2
  clear hbx hb2
  have hk2 := hkf.below hbx2.1
  have hb02 := hbx2.1
  obtain ⟨_, _, c0, c1, c2, c3, c4⟩ := id hbx2
  have HRT := Lib.hid (l14Roots_any v k w2 HR.out hk2)
  have hpl := HR.out.procs
  go_wp2_with fail
  refine HRT.out.mono ?_
  rintro e w3 ⟨Am, cm, rfl, hom, hb3⟩
  have hbx3 := hbx2.to hb3
  clear c0 c1 c2 c3 c4
  obtain ⟨_, _, c0, c1, c2, c3, c4⟩ := id hbx3
  have z1 : (0 : Int) ≤ (a : Int) := by omega
  have z2 : (a : Int) < (k.procs.length : Int) := by omega
  obtain ⟨ad, rfl, _, hc⟩ := (own_rd hom).mark (j := a) (by rw [markL_len]; exact hal)
  rw [markL_len] at hom ⊢
  by_cases hroot : RootP k a
  ·
   rw [mkd_markL_pos hal hroot] at hc
   have HLS := Lib.hid (l14Single_any v k a w3 HR.out (hk2.full.below hb3) HCB.out hL hal hroot)
   clear hroot
   go_wp2_with fail
   refine HLS.out.mono ?_
   rintro e w4 ⟨rfl, hb4⟩
   go_wp2_with fail
   go_ret
   exact ⟨ret_bool (by rw [HY.out]), below_trans' (below_trans' hb02 hb3) hb4⟩
  ·
   rw [mkd_markL_neg hroot] at hc
   have HF := Lib.hid (singB_no fun h => hroot h.1)
   clear hroot
   go_wp2_with fail
   go_ret
   exact ⟨ret_bool (by rw [HY.out, HF.out]), below_trans' hb02 hb3⟩
end Go.Proofs.YtkgoajnnkimkaaaGreat
namespace Go.Proofs.YtkgoajnnkimkaaaGreat
open Go.ChangeShapes Go.WideShapes Go.ChangeAt Go.RowKit
open Classical in
noncomputable def orSel (P : Nat → Prop) (l : List Nat) : Nat := l.foldl (fun s i => if P i then s ||| 2 ^ i else s) 0
theorem orSel_yes {P : Nat → Prop} {i : Nat} (h : P i) (l : List Nat) : orSel P (l ++ [i]) = orSel P l ||| 2 ^ i := by simp [orSel, h]
theorem orSel_no {P : Nat → Prop} {i : Nat} (h : ¬ P i) (l : List Nat) : orSel P (l ++ [i]) = orSel P l := by simp [orSel, h]
theorem orSel_bit {P : Nat → Prop} {q : Nat} : ∀ (l : List Nat) (n : Nat), l.length ≤ n → ((orSel P l).testBit q = true ↔ q ∈ l ∧ P q) := by
 intro l n
 induction n generalizing l with
 | zero =>
  intro h
  obtain rfl : l = [] := List.eq_nil_of_length_eq_zero (by omega)
  simp [orSel]
 | succ n ih =>
  intro h
  rcases nil_or_snoc l with rfl | ⟨r, i, rfl⟩
  ·
   simp [orSel]
  ·
   have ih := ih r (by simp at h; omega)
   by_cases hp : P i
   ·
    rw [orSel_yes hp, Nat.testBit_or, Bool.or_eq_true, ih, Nat.testBit_two_pow, decide_eq_true_iff, List.mem_append, List.mem_singleton]
    constructor
    ·
     rintro (h1 | h1)
     ·
      exact ⟨.inl h1.1, h1.2⟩
     ·
      subst h1; exact ⟨.inr rfl, hp⟩
    ·
     rintro ⟨h1 | h1, h2⟩
     ·
      exact .inl ⟨h1, h2⟩
     ·
      exact .inr h1.symm
   ·
    rw [orSel_no hp, ih, List.mem_append, List.mem_singleton]
    exact ⟨fun h1 => ⟨.inl h1.1, h1.2⟩, fun ⟨h1, h2⟩ => ⟨h1.resolve_right fun e => hp (by rw [← e]; exact h2), h2⟩⟩
theorem orSel_lt {P : Nat → Prop} {l : List Nat} {m : Nat} (h : ∀ i ∈ l, i < m) : orSel P l < 2 ^ m :=
 lt_two_pow_of_bits fun i hi => h i ((orSel_bit l _ (Nat.le_refl _)).1 hi).1
theorem atN_sel {k : Cd} {a : Nat} (hl : LiveA k a) : orSel (fun r => FromP k r (procN k a)) (listN k.procs.length (RootP k)) = atN k a := by
 refine eq_setN (orSel_lt fun i hi => (mem_listN.1 hi).1) fun i hi => ?_
 rw [orSel_bit _ _ (Nat.le_refl _), mem_listN]
 exact ⟨fun h => ⟨hl, h.1.2, h.2⟩, fun h => ⟨⟨hi, h.2.1⟩, h.2.2⟩⟩
theorem singN_sel (k : Cd) : orSel (SingR k) (listN k.procs.length (RootP k)) = singN k := by
 refine eq_setN (orSel_lt fun i hi => (mem_listN.1 hi).1) fun i hi => ?_
 rw [orSel_bit _ _ (Nat.le_refl _), mem_listN]
 exact ⟨fun h => h.2, fun h => ⟨⟨hi, h.1⟩, h⟩⟩
theorem atN_lt (k : Cd) (a : Nat) : atN k a < 2 ^ k.procs.length := setN_lt _ _
theorem rootsAt_no (g : Nat) (v : CV) (k : Cd) (x : Int) (w : World) (hg : KAt w g v k) (hx : (decide (0 ≤ x) && decide (x < k.ins.length)) = false) :
  Calls Tryz.prog 108 #[.pointer (some ⟨g, 0, none⟩), .int .i64 x] w fun e w' => e = .returned (.int .i64 0) ∧ Below w.heap.size w w' := by
 obtain ⟨c0, c1, c2, c3, c4⟩ := hg
 have HP := isPlace_any v k x w
 rw [hx] at HP
 have HP := Lib.hid HP
 clear hx
 go_enter Tryz.func108, Tryz.ntmps108
 go_wp2_with fail
 refine HP.out.mono ?_
 rintro e w1 ⟨rfl, hb1⟩
 go_wp2_with fail
 go_ret
 exact ⟨rfl, hb1⟩
theorem rootsAt_any {B : Nat} (g : Nat) (v : CV) (k : Cd) (a : Nat) (w : World) (hr : Right k) (hW : WAt w B g v k) (ha : a < k.ins.length) :
  Calls Tryz.prog 108 #[.pointer (some ⟨g, 0, none⟩), .int .i64 a] w fun e w' => e = .returned (.int .i64 (atN k a : Nat)) ∧ Below w.heap.size w w' := by
 have hWf := hW.full
 have hpl := hr.procs
 have hins := hr.ins
 have HP := isPlace_any v k a w
 rw [show (decide (0 ≤ ((a : Nat) : Int)) && decide (((a : Nat) : Int) < k.ins.length)) = true from by simp; exact ha] at HP
 have HP := Lib.hid HP
 obtain ⟨c0, c1, c2, c3, c4⟩ := hWf.kat
 obtain ⟨Al, cl, h5, hrl⟩ := hWf.live
 have HKT := Lib.hid (fun W (hb : Below w.heap.size w W) => hWf.kat.to hb)
 have y1 : (0 : Int) ≤ (a : Int) := by omega
 have y2 : (a : Int) < (k.ins.length : Int) := by omega
 by_cases hlv : LiveA k a
 ·
  have HAT := Lib.hid (atN_sel hlv)
  have HB := bitsOf_nats (rootsN k) w (two60 hr (setN_lt _ _))
  have HBB := Lib.hid (fun W => (show Calls Tryz.prog 102 #[.int .i64 (rootsN k : Nat)] W (NewNats W (listN k.procs.length (RootP k))) from by
   have HB := bitsOf_nats (rootsN k) W (two60 hr (setN_lt _ _))
   rw [show bitsTo (rootsN k) 62 = listN k.procs.length (RootP k) from bitsTo_setN (by omega)] at HB
   exact HB))
  clear HB
  have HML := Lib.hid (show ∀ i ∈ listN k.procs.length (RootP k), i < k.procs.length from fun i hi => (mem_listN.1 hi).1)
  have HPI := Lib.hid (fun W (hb : Below w.heap.size w W) => procIn_any v k a W hr ((hWf.below hb).code) ha)
  have HFB := Lib.hid (fun r W => hasBit_any (fromT k r) (procN k a) W (by have := two60 hr (setN_lt k.procs.length (FromP k r)); unfold fromT; omega) (by have := (hr.proc a ha).1; omega))
  have HFT := Lib.hid (show ∀ r, (fromT k r).testBit (procN k a) = true ↔ FromP k r (procN k a) from fun r => by
   unfold fromT
   rw [testBit_setN_true]
   exact ⟨fun h => h.2, fun h => ⟨(hr.proc a ha).1, h⟩⟩)
  have HFG := Lib.hid (fun r (hrl : r < k.procs.length) => hWf.frm.get hrl)
  have h9 := hWf.roots
  have hbl := listN_len k.procs.length (RootP k)
  have HLV := Lib.hid hlv
  clear hr hW hlv
  generalize rootsN k = rn at *
  generalize hls : listN k.procs.length (RootP k) = ls at *
  have HSL := Lib.hid (show ∀ l : List Nat, (∀ i ∈ l, i < k.procs.length) → orSel (fun r => FromP k r (procN k a)) l < 2 ^ k.procs.length from fun l h => orSel_lt h)
  obtain ⟨adl, rfl, _, hcl⟩ := hrl.mark (j := a) (by rw [markL_len]; exact ha)
  rw [mkd_markL_pos ha HLV.out] at hcl
  go_enter Tryz.func108, Tryz.ntmps108
  go_wp2_with fail
  refine HP.out.mono ?_
  rintro e w1 ⟨rfl, hb1⟩
  have h5' := cell_below hb1 h5
  have hcl' := cell_below hb1 hcl
  have h9' := cell_below hb1 h9
  clear c0 c1 c2 c3 c4 h5 hcl h9 hrl
  go_wp2_with fail
  refine (HBB.out _).mono ?_
  rintro e w2 ⟨Ab, cb, rfl, hob, hb2⟩
  have hb02 := below_trans' hb1 hb2
  have hrb := own_rd hob
  clear hob h5' hcl' h9'
  go_wp2_with fail
  go_loopg [5, 31] ls.length (fun l s i wr => ∃ j : Nat, j ≤ ls.length ∧ l = ls.length - j ∧ i = .int .i64 j ∧ s = .int .i64 (orSel (fun r => FromP k r (procN k a)) (ls.take j) : Nat) ∧ Below w2.heap.size w2 wr)
  case atStart => exact ⟨0, by omega, by omega, rfl, rfl, Below.refl _ _⟩
  case round =>
   obtain ⟨j, hj, rfl, rfl, rfl, hb⟩ := hrel
   by_cases hlt : j < ls.length
   ·
    obtain ⟨ad, rfl, _, hc⟩ := (hrb.below hb).nat hlt
    have hil := HML.out ls[j] (List.getElem_mem hlt)
    have HY := Lib.hid (fun (h : FromP k ls[j] (procN k a)) => (show orSel (fun r => FromP k r (procN k a)) (ls.take (j + 1)) = _ from by rw [List.take_succ_eq_append_getElem hlt, orSel_yes (P := fun r => FromP k r (procN k a)) h]))
    have HN := Lib.hid (fun (h : ¬ FromP k ls[j] (procN k a)) => (show orSel (fun r => FromP k r (procN k a)) (ls.take (j + 1)) = _ from by rw [List.take_succ_eq_append_getElem hlt, orSel_no (P := fun r => FromP k r (procN k a)) h]))
    have hsl := HSL.out (ls.take j) fun i hi => HML.out i (List.mem_of_mem_take hi)
    have h256 : 2 ^ k.procs.length ≤ 2 ^ 8 := Nat.pow_le_pow_right (by omega) hpl
    generalize ls[j] = r at *
    generalize orSel (fun r => FromP k r (procN k a)) (ls.take j) = s at *
    have hb0r := below_trans' hb02 hb
    obtain ⟨c0, c1, c2, c3, c4⟩ := HKT.out _ hb0r
    obtain ⟨ad8, c8, d8, hc8⟩ := HFG.out r hil
    have d8 := cell_below hb0r d8
    have hc8 := cell_below hb0r hc8
    have HFBr := Lib.hid (HFB.out r)
    have HFTr := Lib.hid (HFT.out r)
    generalize fromT k r = fr at *
    have z1 : (0 : Int) ≤ (r : Int) := by omega
    have z2 : (r : Int) < (k.procs.length : Int) := by omega
    by_cases hfr : FromP k r (procN k a)
    ·
     have HBT := HFBr.out
     rw [HFTr.out.2 hfr] at HBT
     have HBT := Lib.hid HBT
     have HT := Lib.hid (HY.out hfr)
     have HSH := Lib.hid (show bits .or .i64 (s : Int) (wrap64 ((2 : Int) ^ r)) = ((s ||| 2 ^ r : Nat) : Int) from by rw [shl_one _ (by omega), i64_or_nat _ _ (by omega) (two_pow_lt _ (by omega))])
     clear hfr
     go_wp2_with fail
     refine wp_region_held_drew (S := fun w' => Below wr.heap.size wr w') (by kernel_rfl) ((Below.refl _ _).drew) (fun hHeld => ?_)
     first | refine hs_ 0 ?_ | (refine hr_ 0 ?_ ?_ ?_; rotate_left; (intro W hW; obtain ⟨f0, f1, f2, f3, f4, f5, f6⟩ := cb7 hW c0 c1 c2 c3 c4 d8 hc8; go_simp; try with_reducible rfl))
     first | refine hs_ 1 ?_ | (refine hr_ 1 ?_ ?_ ?_; rotate_left; (intro W hW; obtain ⟨f0, f1, f2, f3, f4, f5, f6⟩ := cb7 hW c0 c1 c2 c3 c4 d8 hc8; go_simp; try with_reducible rfl))
     first | refine hs_ 2 ?_ | (refine hr_ 2 ?_ ?_ ?_; rotate_left; (intro W hW; obtain ⟨f0, f1, f2, f3, f4, f5, f6⟩ := cb7 hW c0 c1 c2 c3 c4 d8 hc8; go_simp; try with_reducible rfl))
     first | refine hs_ 3 ?_ | (refine hr_ 3 ?_ ?_ ?_; rotate_left; (intro W hW; obtain ⟨f0, f1, f2, f3, f4, f5, f6⟩ := cb7 hW c0 c1 c2 c3 c4 d8 hc8; go_simp; try with_reducible rfl))
     first | refine hs_ 4 ?_ | (refine hr_ 4 ?_ ?_ ?_; rotate_left; (intro W hW; obtain ⟨f0, f1, f2, f3, f4, f5, f6⟩ := cb7 hW c0 c1 c2 c3 c4 d8 hc8; go_simp; try with_reducible rfl))
     first | refine hs_ 5 ?_ | (refine hr_ 5 ?_ ?_ ?_; rotate_left; (intro W hW; obtain ⟨f0, f1, f2, f3, f4, f5, f6⟩ := cb7 hW c0 c1 c2 c3 c4 d8 hc8; go_simp; try with_reducible rfl))
     first | refine hs_ 6 ?_ | (refine hr_ 6 ?_ ?_ ?_; rotate_left; (intro W hW; obtain ⟨f0, f1, f2, f3, f4, f5, f6⟩ := cb7 hW c0 c1 c2 c3 c4 d8 hc8; go_simp; try with_reducible rfl))
     first | refine hs_ 7 ?_ | (refine hr_ 7 ?_ ?_ ?_; rotate_left; (intro W hW; obtain ⟨f0, f1, f2, f3, f4, f5, f6⟩ := cb7 hW c0 c1 c2 c3 c4 d8 hc8; go_simp; try with_reducible rfl))
     first | refine hs_ 8 ?_ | (refine hr_ 8 ?_ ?_ ?_; rotate_left; (intro W hW; obtain ⟨f0, f1, f2, f3, f4, f5, f6⟩ := cb7 hW c0 c1 c2 c3 c4 d8 hc8; go_simp; try with_reducible rfl))
     first | refine hs_ 9 ?_ | (refine hr_ 9 ?_ ?_ ?_; rotate_left; (intro W hW; obtain ⟨f0, f1, f2, f3, f4, f5, f6⟩ := cb7 hW c0 c1 c2 c3 c4 d8 hc8; go_simp; try with_reducible rfl))
     first | refine hs_ 10 ?_ | (refine hr_ 10 ?_ ?_ ?_; rotate_left; (intro W hW; obtain ⟨f0, f1, f2, f3, f4, f5, f6⟩ := cb7 hW c0 c1 c2 c3 c4 d8 hc8; go_simp; try with_reducible rfl))
     first | refine hs_ 11 ?_ | (refine hr_ 11 ?_ ?_ ?_; rotate_left; (intro W hW; obtain ⟨f0, f1, f2, f3, f4, f5, f6⟩ := cb7 hW c0 c1 c2 c3 c4 d8 hc8; go_simp; try with_reducible rfl))
     refine ho_ 12 fun K hK => ?_
     go_simp
     refine (HPI.out _ (below_trans' hb0r hHeld)).mono ?_
     rintro e w5 ⟨rfl, hb5⟩
     refine hk_ hK (below_trans' hHeld hb5) fun hHeld => ?_
     clear hK K
     refine ho_ 13 fun K hK => ?_
     go_simp
     refine (HBT.out _).mono ?_
     rintro e w6 ⟨rfl, rfl⟩
     refine hk_ hK (hHeld) fun hHeld => ?_
     clear hK K
     refine wpAnyH_done (by kernel_rfl) ?_ _
     clear c0 c1 c2 c3 c4 d8 hc8 hc
     go_wp2_with fail
     go_roundg (ls.length - (j + 1))
     case measure => omega
     case rel => exact ⟨j + 1, by omega, rfl, by go_num, by rw [HT.out, HSH.out], below_trans' hb hHeld⟩
    ·
     have HBT := HFBr.out
     rw [show fr.testBit (procN k a) = false from by
      cases e : fr.testBit (procN k a)
      ·
       rfl
      ·
       exact absurd (HFTr.out.1 e) hfr] at HBT
     have HBT := Lib.hid HBT
     have HT := Lib.hid (HN.out hfr)
     clear hfr
     go_wp2_with fail
     refine wp_region_held_drew (S := fun w' => Below wr.heap.size wr w') (by kernel_rfl) ((Below.refl _ _).drew) (fun hHeld => ?_)
     first | refine hs_ 0 ?_ | (refine hr_ 0 ?_ ?_ ?_; rotate_left; (intro W hW; obtain ⟨f0, f1, f2, f3, f4, f5, f6⟩ := cb7 hW c0 c1 c2 c3 c4 d8 hc8; go_simp; try with_reducible rfl))
     first | refine hs_ 1 ?_ | (refine hr_ 1 ?_ ?_ ?_; rotate_left; (intro W hW; obtain ⟨f0, f1, f2, f3, f4, f5, f6⟩ := cb7 hW c0 c1 c2 c3 c4 d8 hc8; go_simp; try with_reducible rfl))
     first | refine hs_ 2 ?_ | (refine hr_ 2 ?_ ?_ ?_; rotate_left; (intro W hW; obtain ⟨f0, f1, f2, f3, f4, f5, f6⟩ := cb7 hW c0 c1 c2 c3 c4 d8 hc8; go_simp; try with_reducible rfl))
     first | refine hs_ 3 ?_ | (refine hr_ 3 ?_ ?_ ?_; rotate_left; (intro W hW; obtain ⟨f0, f1, f2, f3, f4, f5, f6⟩ := cb7 hW c0 c1 c2 c3 c4 d8 hc8; go_simp; try with_reducible rfl))
     first | refine hs_ 4 ?_ | (refine hr_ 4 ?_ ?_ ?_; rotate_left; (intro W hW; obtain ⟨f0, f1, f2, f3, f4, f5, f6⟩ := cb7 hW c0 c1 c2 c3 c4 d8 hc8; go_simp; try with_reducible rfl))
     first | refine hs_ 5 ?_ | (refine hr_ 5 ?_ ?_ ?_; rotate_left; (intro W hW; obtain ⟨f0, f1, f2, f3, f4, f5, f6⟩ := cb7 hW c0 c1 c2 c3 c4 d8 hc8; go_simp; try with_reducible rfl))
     first | refine hs_ 6 ?_ | (refine hr_ 6 ?_ ?_ ?_; rotate_left; (intro W hW; obtain ⟨f0, f1, f2, f3, f4, f5, f6⟩ := cb7 hW c0 c1 c2 c3 c4 d8 hc8; go_simp; try with_reducible rfl))
     first | refine hs_ 7 ?_ | (refine hr_ 7 ?_ ?_ ?_; rotate_left; (intro W hW; obtain ⟨f0, f1, f2, f3, f4, f5, f6⟩ := cb7 hW c0 c1 c2 c3 c4 d8 hc8; go_simp; try with_reducible rfl))
     first | refine hs_ 8 ?_ | (refine hr_ 8 ?_ ?_ ?_; rotate_left; (intro W hW; obtain ⟨f0, f1, f2, f3, f4, f5, f6⟩ := cb7 hW c0 c1 c2 c3 c4 d8 hc8; go_simp; try with_reducible rfl))
     first | refine hs_ 9 ?_ | (refine hr_ 9 ?_ ?_ ?_; rotate_left; (intro W hW; obtain ⟨f0, f1, f2, f3, f4, f5, f6⟩ := cb7 hW c0 c1 c2 c3 c4 d8 hc8; go_simp; try with_reducible rfl))
     first | refine hs_ 10 ?_ | (refine hr_ 10 ?_ ?_ ?_; rotate_left; (intro W hW; obtain ⟨f0, f1, f2, f3, f4, f5, f6⟩ := cb7 hW c0 c1 c2 c3 c4 d8 hc8; go_simp; try with_reducible rfl))
     first | refine hs_ 11 ?_ | (refine hr_ 11 ?_ ?_ ?_; rotate_left; (intro W hW; obtain ⟨f0, f1, f2, f3, f4, f5, f6⟩ := cb7 hW c0 c1 c2 c3 c4 d8 hc8; go_simp; try with_reducible rfl))
     refine ho_ 12 fun K hK => ?_
     go_simp
     refine (HPI.out _ (below_trans' hb0r hHeld)).mono ?_
     rintro e w5 ⟨rfl, hb5⟩
     refine hk_ hK (below_trans' hHeld hb5) fun hHeld => ?_
     clear hK K
     refine ho_ 13 fun K hK => ?_
     go_simp
     refine (HBT.out _).mono ?_
     rintro e w6 ⟨rfl, rfl⟩
     refine hk_ hK (hHeld) fun hHeld => ?_
     clear hK K
     refine wpAnyH_done (by kernel_rfl) ?_ _
     clear c0 c1 c2 c3 c4 d8 hc8 hc
     go_wp2_with fail
     go_roundg (ls.length - (j + 1))
     case measure => omega
     case rel => exact ⟨j + 1, by omega, rfl, by go_num, by rw [HT.out], below_trans' hb hHeld⟩
   ·
    obtain rfl : j = ls.length := by omega
    go_wp2_with fail
    go_ret
    exact ⟨ret_int (by rw [← HAT.out, List.take_length]), below_trans' hb02 hb⟩
 ·
  have HZ := Lib.hid (atN_dead hlv)
  obtain ⟨adl, rfl, _, hcl⟩ := hrl.mark (j := a) (by rw [markL_len]; exact ha)
  rw [mkd_markL_neg hlv] at hcl
  clear hlv hr hW
  go_enter Tryz.func108, Tryz.ntmps108
  go_wp2_with fail
  refine HP.out.mono ?_
  rintro e w1 ⟨rfl, hb1⟩
  have h5' := cell_below hb1 h5
  have hcl' := cell_below hb1 hcl
  clear c0 c1 c2 c3 c4 h5 hcl hrl
  go_wp2_with fail
  go_ret
  exact ⟨ret_int (by rw [HZ.out]; rfl), hb1⟩
theorem singles_any {B : Nat} (g : Nat) (v : CV) (k : Cd) (w : World) (hr : Right k) (hW : WAt w B g v k) :
  Calls Tryz.prog 112 #[.pointer (some ⟨g, 0, none⟩)] w fun e w' => e = .returned (.int .i64 (singN k : Nat)) ∧ Below w.heap.size w w' := by
 have hWf := hW.full
 have hpl := hr.procs
 have HBB := Lib.hid (fun W => (show Calls Tryz.prog 102 #[.int .i64 (rootsN k : Nat)] W (NewNats W (listN k.procs.length (RootP k))) from by
  have HB := bitsOf_nats (rootsN k) W (two60 hr (setN_lt _ _))
  rw [show bitsTo (rootsN k) 62 = listN k.procs.length (RootP k) from bitsTo_setN (by omega)] at HB
  exact HB))
 have HML := Lib.hid (show ∀ i ∈ listN k.procs.length (RootP k), i < k.procs.length from fun i hi => (mem_listN.1 hi).1)
 have HSG := Lib.hid (fun r (hrl : r < k.procs.length) W (hb : Below w.heap.size w W) => single_any g v k r W hr (hWf.below hb) hrl)
 have HAT := Lib.hid (singN_sel k)
 have HSL := Lib.hid (show ∀ l : List Nat, (∀ i ∈ l, i < k.procs.length) → orSel (SingR k) l < 2 ^ k.procs.length from fun l h => orSel_lt h)
 have h9 := hWf.roots
 have hbl := listN_len k.procs.length (RootP k)
 clear hr hW
 generalize rootsN k = rn at *
 generalize listN k.procs.length (RootP k) = ls at *
 go_enter Tryz.func112, Tryz.ntmps112
 go_wp2_with fail
 refine (HBB.out _).mono ?_
 rintro e w2 ⟨Ab, cb, rfl, hob, hb02⟩
 have hrb := own_rd hob
 clear hob h9
 go_wp2_with fail
 go_loopg [3, 12] ls.length (fun l s i wr => ∃ j : Nat, j ≤ ls.length ∧ l = ls.length - j ∧ i = .int .i64 j ∧ s = .int .i64 (orSel (SingR k) (ls.take j) : Nat) ∧ Below w2.heap.size w2 wr)
 case atStart => exact ⟨0, by omega, by omega, rfl, rfl, Below.refl _ _⟩
 case round =>
  obtain ⟨j, hj, rfl, rfl, rfl, hb⟩ := hrel
  by_cases hlt : j < ls.length
  ·
   obtain ⟨ad, rfl, _, hc⟩ := (hrb.below hb).nat hlt
   have hil := HML.out ls[j] (List.getElem_mem hlt)
   have HY := Lib.hid (fun (h : SingR k ls[j]) => (show orSel (SingR k) (ls.take (j + 1)) = _ from by rw [List.take_succ_eq_append_getElem hlt, orSel_yes h]))
   have HN := Lib.hid (fun (h : ¬ SingR k ls[j]) => (show orSel (SingR k) (ls.take (j + 1)) = _ from by rw [List.take_succ_eq_append_getElem hlt, orSel_no h]))
   have hsl := HSL.out (ls.take j) fun i hi => HML.out i (List.mem_of_mem_take hi)
   have h256 : 2 ^ k.procs.length ≤ 2 ^ 8 := Nat.pow_le_pow_right (by omega) hpl
   generalize ls[j] = r at *
   generalize orSel (SingR k) (ls.take j) = s at *
   have HS := Lib.hid (HSG.out r hil wr (below_trans' hb02 hb))
   cases hsb : singB k r
   ·
    have hns : ¬ SingR k r := fun h => by rw [singB_yes h] at hsb; simp at hsb
    rw [hsb] at HS
    have HT := Lib.hid (HN.out hns)
    clear hsb hns
    go_wp2_with fail
    refine HS.out.mono ?_
    rintro e w5 ⟨rfl, hb5⟩
    go_wp2_with fail
    go_roundg (ls.length - (j + 1))
    case measure => omega
    case rel => exact ⟨j + 1, by omega, rfl, by go_num, by rw [HT.out], below_trans' hb hb5⟩
   ·
    have hns : SingR k r := singB_iff.1 hsb
    rw [hsb] at HS
    have HT := Lib.hid (HY.out hns)
    have HSH := Lib.hid (show bits .or .i64 (s : Int) (wrap64 ((2 : Int) ^ r)) = ((s ||| 2 ^ r : Nat) : Int) from by rw [shl_one _ (by omega), i64_or_nat _ _ (by omega) (two_pow_lt _ (by omega))])
    clear hsb hns
    go_wp2_with fail
    refine HS.out.mono ?_
    rintro e w5 ⟨rfl, hb5⟩
    go_wp2_with fail
    go_roundg (ls.length - (j + 1))
    case measure => omega
    case rel => exact ⟨j + 1, by omega, rfl, by go_num, by rw [HT.out, HSH.out], below_trans' hb hb5⟩
  ·
   obtain rfl : j = ls.length := by omega
   go_wp2_with fail
   go_ret
   exact ⟨ret_int (by rw [← HAT.out, List.take_length]), below_trans' hb02 hb⟩
theorem rootsAt_pub (g : Nat) (v : CV) (k : Cd) (x : Int) (w : World) (hr : Right k) (hok : codeOkI k = true) (hW : WAt w w.heap.size g v k) :
  Calls Tryz.prog 108 #[.pointer (some ⟨g, 0, none⟩), .int .i64 x] w fun e w' => e = .returned (.int .i64 (atI k x (atN k) : Nat)) ∧ Below w.heap.size w w' := by
 cases hpl : (decide (0 ≤ x) && decide (x < k.ins.length))
 ·
  have := rootsAt_no g v k x w hW.kat hpl
  rw [show atI k x (atN k) = 0 from atI_no (and_no2 hpl)]
  exact this
 ·
  obtain ⟨a, rfl, hal⟩ : ∃ a : Nat, x = a ∧ a < k.ins.length := by
   simp only [Bool.and_eq_true, decide_eq_true_eq] at hpl
   exact ⟨x.toNat, by omega, by omega⟩
  rw [atI_yes hok hal]
  exact rootsAt_any g v k a w hr hW hal
theorem atI_lt (k : Cd) (x : Int) : atI k x (atN k) < 2 ^ k.procs.length := by
 unfold atI
 split
 ·
  exact atN_lt _ _
 ·
  exact Nat.two_pow_pos _
theorem atI_bits {k : Cd} (hr : Right k) (x : Int) : bitsTo (atI k x (atN k)) 62 = atL k x (fun a => listN k.procs.length (AtP k a)) := by
 have hpl := hr.procs
 unfold atI atL
 split
 ·
  exact bitsTo_setN (by omega)
 ·
  simp [bitsTo]
theorem rootsAt_i {B L : Nat} (v : CV) (k : Cd) (at_ : Int) (w : World) (hk : CodeAt w B v k) (hcb : CdB L k) (hL : L ≤ 1048576) :
  Calls Tryz.prog 31 #[.agg #[.slice v.gA k.globals.length v.gc, .slice v.lA k.locks.length v.lc, .slice v.pA k.procs.length v.pc, .slice v.eA k.entry.length v.ec, .slice v.iA k.ins.length v.ic], .int .i64 at_] w (NewNats w (atL k at_ (fun a => listN k.procs.length (AtP k a)))) := by
 have hkf := hk.full
 have hbx := codeBox w v k
 cases hok : codeOkI k
 ·
  have HW := Lib.hid (fun W (h : CodeAt W w.heap.size v k) => worldOf_no v k W h hcb (by omega) hok)
  have HZ := Lib.hid (show ∀ w', Below w.heap.size w w' → NewNats w (atL k at_ (fun a => listN k.procs.length (AtP k a))) (.returned (.slice none 0 0)) w' from fun w' h => newNil (atL_no (and_no1 hok)) h)
  clear hok hcb hk
  go_enter Tryz.func31, Tryz.ntmps31
  go_wp2_with fail
  generalize w.alloc (.cells #[.slice v.gA k.globals.length v.gc, .slice v.lA k.locks.length v.lc, .slice v.pA k.procs.length v.pc, .slice v.eA k.entry.length v.ec, .slice v.iA k.ins.length v.ic] 28) = W at hbx ⊢
  refine (HW.out _ (hkf.below hbx.1)).mono ?_
  rintro e w1 ⟨rfl, hb1⟩
  go_wp2_with fail
  go_ret
  exact HZ.out _ (below_trans' hbx.1 hb1)
 ·
  have hr := right_of hok
  have HW := Lib.hid (fun W (h : CodeAt W w.heap.size v k) => worldOf_yes v k W h hcb (by omega) hok)
  have HRA := Lib.hid (fun W g (h : WAt W W.heap.size g v k) => rootsAt_pub g v k at_ W hr hok h)
  have HB := Lib.hid (fun W => (show Calls Tryz.prog 102 #[.int .i64 (atI k at_ (atN k) : Nat)] W (NewNats W (atL k at_ (fun a => listN k.procs.length (AtP k a)))) from by
   have HB := bitsOf_nats (atI k at_ (atN k)) W (two60 hr (atI_lt k at_))
   rw [atI_bits hr] at HB
   exact HB))
  clear hok hcb hk hr
  generalize atI k at_ (atN k) = s at *
  go_enter Tryz.func31, Tryz.ntmps31
  go_wp2_with fail
  generalize w.alloc (.cells #[.slice v.gA k.globals.length v.gc, .slice v.lA k.locks.length v.lc, .slice v.pA k.procs.length v.pc, .slice v.eA k.entry.length v.ec, .slice v.iA k.ins.length v.ic] 28) = W at hbx ⊢
  refine (HW.out _ (hkf.below hbx.1)).mono ?_
  rintro e w1 ⟨g, rfl, hgl, hW, hb1⟩
  go_wp2_with fail
  refine (HRA.out _ _ hW).mono ?_
  rintro e w2 ⟨rfl, hb2⟩
  go_wp2_with fail
  refine (HB.out _).mono ?_
  rintro e w3 ⟨A3, c3', rfl, ho3, hb3⟩
  go_wp2_with fail
  go_ret
  have hb02 := below_trans' (below_trans' hbx.1 hb1) hb2
  exact NewNats.more ⟨A3, c3', rfl, ho3, hb3⟩ hb02 rfl
end Go.Proofs.YtkgoajnnkimkaaaGreat
namespace Go.Proofs.YtkgoajnnkimkaaaGreat
open Go.ChangeShapes Go.WideShapes Go.ChangeAt Go.RowKit
theorem l14RootsAt_any {B : Nat} (v : CV) (k : Cd) (a : Nat) (w : World) (hr : Right k) (hk : CodeAt w B v k) (ha : a < k.ins.length) :
  Calls Tryz.prog 113 #[.agg #[.slice v.gA k.globals.length v.gc, .slice v.lA k.locks.length v.lc, .slice v.pA k.procs.length v.pc, .slice v.eA k.entry.length v.ec, .slice v.iA k.ins.length v.ic], .int .i64 a] w (NewNats w (listN k.procs.length (AtP k a))) := by
 have hkf := hk.full
 obtain ⟨hbx, hpo⟩ := preOut w v k
 have hpl := hr.procs
 have hins := hr.ins
 have hpn := (hr.proc a ha).1
 have HPR := Lib.hid (fun W (h : CodeAt W w.heap.size v k) => l08Proc_right v k a W hr h ha)
 have HLV := Lib.hid (fun W (h : CodeAt W w.heap.size v k) => l09Live_any v k (procN k a) W hr h hpn)
 have HRT := Lib.hid (fun W (h : CodeAt W w.heap.size v k) => l14Roots_any v k W hr h)
 have HFR := Lib.hid (fun r (hrl : r < k.procs.length) W (h : CodeAt W w.heap.size v k) => l10From_any v k r W hr h hrl)
 have HATP := Lib.hid (show ∀ r, AtP k a r ↔ LiveP k (procN k a) a ∧ RootP k r ∧ FromP k r (procN k a) from fun r => Iff.rfl)
 clear hk hr
 generalize procN k a = p at *
 have y1 : (0 : Int) ≤ (a : Int) := by omega
 have y2 : (a : Int) < (k.ins.length : Int) := by omega
 have y3 : (0 : Int) ≤ (p : Int) := by omega
 have y4 : (p : Int) < (k.procs.length : Int) := by omega
 go_enter Tryz.func113, Tryz.ntmps113
 go_wp2_with fail
 generalize (w.alloc (.cells #[.slice v.gA k.globals.length v.gc, .slice v.lA k.locks.length v.lc, .slice v.pA k.procs.length v.pc, .slice v.eA k.entry.length v.ec, .slice v.iA k.ins.length v.ic] 28)).alloc (.cells #[] 3) = W at hbx hpo ⊢
 refine (HPR.out _ (hkf.below hbx.1)).mono ?_
 rintro e w1 ⟨rfl, hb1⟩
 have hbx1 := hbx.to hb1
 have hpo1 := own_below hpo hb1
 have hWs := hbx.2.1
 have hW1 := hb1.size
 clear hbx hpo hb1
 obtain ⟨q1, q2, c0, c1, c2, c3, c4⟩ := id hbx1
 go_wp2_with fail
 refine (HLV.out _ (hkf.below q1)).mono ?_
 rintro e w2 ⟨Al, cl, rfl, hol, hb2⟩
 have hbx2 := hbx1.to hb2
 have hpo2 := own_below hpo1 hb2
 have hW2 := hb2.size
 clear c0 c1 c2 c3 c4 q1 q2 hbx1 hpo1 hb2
 obtain ⟨adl, rfl, _, hcl⟩ := (own_rd hol).mark (j := a) (by rw [markL_len]; exact ha)
 rw [markL_len]
 clear hol
 by_cases hlv : LiveP k p a
 ·
  rw [mkd_markL_pos ha hlv] at hcl
  have HLI := Lib.hid hlv
  clear hlv
  obtain ⟨q1, q2, c0, c1, c2, c3, c4⟩ := id hbx2
  go_wp2_with fail
  refine (HRT.out _ (hkf.below q1)).mono ?_
  rintro e w3 ⟨Ar, cr, rfl, hor, hb3⟩
  rw [markL_len] at hor ⊢
  have hbx3 := hbx2.to hb3
  have hpo3 := own_below hpo2 hb3
  have har : Apart (.slice Ar k.procs.length cr) (.slice (some ⟨w.heap.size + 1, 0, none⟩) 0 0) := fun b h1 h2 => by
   have h3 := (hor.lt b h1).1
   have h4 := (hpo2.lt b h2).2
   omega
  obtain ⟨lr, hlr, hor⟩ : ∃ lr, w.heap.size < lr ∧ w3.ownsRow lr 4 1 (.slice Ar k.procs.length cr) k.procs.length ((markL k.procs.length (RootP k)).map bv) := ⟨w2.heap.size, by omega, hor⟩
  clear hbx2 hpo2 hb3 c0 c1 c2 c3 c4 q1 q2 hcl
  go_wp2_with fail
  go_loopg [5, 8] k.procs.length (fun l out i wr => ∃ r : Nat, r ≤ k.procs.length ∧ l = k.procs.length - r ∧ i = .int .i64 r ∧ wr.ownsRow (w.heap.size + 1) 3 1 out (listN r (AtP k a)).length (nv (listN r (AtP k a))) ∧ CodeBox w v k wr ∧ wr.ownsRow lr 4 1 (.slice Ar k.procs.length cr) k.procs.length ((markL k.procs.length (RootP k)).map bv) ∧ Apart (.slice Ar k.procs.length cr) out)
  case atStart => exact ⟨0, by omega, by omega, rfl, hpo3, hbx3, hor, har⟩
  case round =>
   clear hpo3 hbx3 hor har
   obtain ⟨r, hrl, rfl, rfl, ho, hbx, hor, har⟩ := hrel
   obtain ⟨Ao, co, rfl⟩ := own_form ho
   obtain ⟨q1, q2, c0, c1, c2, c3, c4⟩ := id hbx
   have hll := listN_len r (AtP k a)
   by_cases hlt : r < k.procs.length
   ·
    obtain ⟨adr, rfl, _, hcr⟩ := (own_rd hor).mark (j := r) (by rw [markL_len]; exact hlt)
    have z1 : (0 : Int) ≤ (r : Int) := by omega
    have z2 : (r : Int) < (k.procs.length : Int) := by omega
    have HT := Lib.hid (listN_succ r (AtP k a))
    have HA := Lib.hid (HATP.out r)
    by_cases hrt : RootP k r
    ·
     rw [mkd_markL_pos hlt hrt] at hcr
     have HRR := Lib.hid hrt
     clear hrt
     go_wp2_with fail
     refine (HFR.out r hlt _ (hkf.below q1)).mono ?_
     rintro e w5 ⟨Af, cf, rfl, hof, hb5⟩
     have ho5 := own_below ho hb5
     have hbx5 := hbx.to hb5
     have hor5 := own_below hor hb5
     have hsz : w.heap.size + 1 ≤ w5.heap.size := hbx5.2.1
     clear c0 c1 c2 c3 c4 q1 q2 ho hbx hor hb5 hcr
     obtain ⟨adf, rfl, _, hcf⟩ := (own_rd hof).mark (j := p) (by rw [markL_len]; exact hpn)
     rw [markL_len]
     clear hof
     by_cases hfr : FromP k r p
     ·
      rw [mkd_markL_pos hpn hfr] at hcf
      have HIN := Lib.hid (HA.out.2 ⟨HLI.out, HRR.out, hfr⟩)
      clear hfr
      go_wp2_with (at_builtin; refine append_int rfl _ _ rfl ho5 rfl rfl (by omega) hsz ?_; intro A' c' w6 ho6 hg6 hl6)
      go_roundg (k.procs.length - (r + 1))
      case measure => omega
      case rel =>
       refine ⟨r + 1, by omega, rfl, by go_num, ?_, hbx5.app ho5 hg6 (by omega), hor5.kept hg6 har.kept, ?_⟩
       ·
        rw [HT.out, if_pos HIN.out, nv_snoc, List.length_append]; exact ho6
       ·
        intro b h1 h2
        rcases hl6 with h3 | h3
        ·
         rw [h3] at h2; exact har b h1 h2
        ·
         rw [h3] at h2
         have := (hor5.lt b h1).2
         injection h2 with h2
         omega
     ·
      rw [mkd_markL_neg hfr] at hcf
      have HIN := Lib.hid (show ¬ AtP k a r from fun h => hfr (HA.out.1 h).2.2)
      clear hfr
      go_wp2_with fail
      go_roundg (k.procs.length - (r + 1))
      case measure => omega
      case rel => exact ⟨r + 1, by omega, rfl, by go_num, by rw [HT.out, if_neg HIN.out]; exact ho5, hbx5, hor5, har⟩
    ·
     rw [mkd_markL_neg hrt] at hcr
     have HIN := Lib.hid (show ¬ AtP k a r from fun h => hrt (HA.out.1 h).2.1)
     clear hrt
     go_wp2_with fail
     go_roundg (k.procs.length - (r + 1))
     case measure => omega
     case rel => exact ⟨r + 1, by omega, rfl, by go_num, by rw [HT.out, if_neg HIN.out]; exact ho, hbx, hor, har⟩
   ·
    obtain rfl : r = k.procs.length := by omega
    go_wp2_with fail
    go_ret
    exact ⟨Ao, co, rfl, own_mono ho (by omega), q1⟩
 ·
  rw [mkd_markL_neg hlv] at hcl
  have HZ := Lib.hid (show listN k.procs.length (AtP k a) = [] from listN_none fun i _ h => hlv ((HATP.out i).1 h).1)
  clear hlv
  go_wp2_with fail
  go_ret
  rw [HZ.out]
  exact ⟨_, _, rfl, own_mono hpo2 (by omega), hbx2.1⟩
theorem apart_any (a b s : Nat) (w : World) (ha : a < 256) (hb : b < 256) (hs : s < 256) :
  Calls Tryz.prog 111 #[.int .i64 a, .int .i64 b, .int .i64 s] w fun e w' => e = .returned (.bool (apartB a b s)) ∧ w = w' := by
 have hab : a &&& b < 9223372036854775808 := Nat.lt_of_le_of_lt Nat.and_le_left (by omega)
 have e1 : bits .and .i64 (a : Int) (b : Int) = ((a &&& b : Nat) : Int) := i64_and_nat _ _ (by omega) (by omega)
 have e2 : bits .andNot .i64 ((a &&& b : Nat) : Int) (s : Int) = ((andNot (a &&& b) s : Nat) : Int) := i64_andNot_nat _ _ hab (by omega)
 by_cases h0 : a = 0
 ·
  subst h0
  have HF := Lib.hid (show apartB 0 b s = false from by simp [apartB])
  clear e1 e2
  go_enter Tryz.func111, Tryz.ntmps111
  go_wp2_with fail
  go_ret
  exact ⟨ret_bool HF.out.symm, rfl⟩
 ·
  by_cases h1 : b = 0
  ·
   subst h1
   have HF := Lib.hid (show apartB a 0 s = false from by simp [apartB])
   have q0 : ((a : Int) == 0) = false := by simp; omega
   clear e1 e2 h0
   go_enter Tryz.func111, Tryz.ntmps111
   go_wp2_with fail
   go_ret
   exact ⟨ret_bool HF.out.symm, rfl⟩
  ·
   have q0 : ((a : Int) == 0) = false := by simp; omega
   have q1 : ((b : Int) == 0) = false := by simp; omega
   have HP := Lib.hid (show apartB a b s = ((andNot (a &&& b) s != 0) || (a != b) || (a &&& (a - 1) != 0)) from by unfold apartB; rw [if_neg (by omega)])
   have e3 : (((andNot (a &&& b) s : Nat) : Int) != 0) = (andNot (a &&& b) s != 0) := by rw [bne, bne, cast_beq_zero]
   have e4 : ((a : Int) != (b : Int)) = (a != b) := by rw [bne, bne, cast_beq]
   have e5 : bits .and .i64 (a : Int) ((a : Int) - 1) = ((a &&& (a - 1) : Nat) : Int) := by
    rw [show (a : Int) - 1 = ((a - 1 : Nat) : Int) from by omega]
    exact i64_and_nat _ _ (by omega) (by omega)
   have e6 : (((a &&& (a - 1) : Nat) : Int) != 0) = (a &&& (a - 1) != 0) := by rw [bne, bne, cast_beq_zero]
   have hpos : (1 : Int) ≤ (a : Int) := by omega
   cases d1 : (andNot (a &&& b) s != 0)
   ·
    rw [d1] at HP e3
    cases d2 : (a != b)
    ·
     rw [d2] at HP e4
     cases d3 : (a &&& (a - 1) != 0)
     ·
      rw [d3] at HP e6
      have HF := Lib.hid (show apartB a b s = false from HP.out)
      clear h0 h1 d1 d2 d3 HP
      go_enter Tryz.func111, Tryz.ntmps111
      go_wp2_with fail
      go_ret
      exact ⟨ret_bool HF.out.symm, rfl⟩
     ·
      rw [d3] at HP e6
      have HF := Lib.hid (show apartB a b s = true from HP.out)
      clear h0 h1 d1 d2 d3 HP
      go_enter Tryz.func111, Tryz.ntmps111
      go_wp2_with fail
      go_ret
      exact ⟨ret_bool HF.out.symm, rfl⟩
    ·
     rw [d2] at HP e4
     have HF := Lib.hid (show apartB a b s = true from HP.out)
     clear h0 h1 d1 d2 HP e5 e6
     go_enter Tryz.func111, Tryz.ntmps111
     go_wp2_with fail
     go_ret
     exact ⟨ret_bool HF.out.symm, rfl⟩
   ·
    rw [d1] at HP e3
    have HF := Lib.hid (show apartB a b s = true from HP.out)
    clear h0 h1 d1 HP e4 e5 e6
    go_enter Tryz.func111, Tryz.ntmps111
    go_wp2_with fail
    go_ret
    exact ⟨ret_bool HF.out.symm, rfl⟩
noncomputable def besideA (k : Cd) (x y : Int) : Bool := if (codeOkI k && (decide (0 ≤ x) && decide (x < k.ins.length)) && (decide (0 ≤ y) && decide (y < k.ins.length))) = true then besideB k x.toNat y.toNat else false
theorem apart_zero (a b s : Nat) (h : a = 0 ∨ b = 0) : apartB a b s = false := by unfold apartB; rw [if_pos h]
theorem besideA_eq {k : Cd} (hok : codeOkI k = true) (x y : Int) : apartB (atI k x (atN k)) (atI k y (atN k)) (singN k) = besideA k x y := by
 have hr := right_of hok
 unfold besideA
 cases hx : (decide (0 ≤ x) && decide (x < k.ins.length))
 ·
  rw [atI_no (and_no2 hx), apart_zero _ _ _ (.inl rfl)]
  simp
 ·
  cases hy : (decide (0 ≤ y) && decide (y < k.ins.length))
  ·
   rw [atI_no (at_ := y) (and_no2 hy), apart_zero _ _ _ (.inr rfl)]
   simp
  ·
   simp only [Bool.and_eq_true, decide_eq_true_eq] at hx hy
   obtain ⟨a, rfl⟩ := Int.eq_ofNat_of_zero_le hx.1
   obtain ⟨b, rfl⟩ := Int.eq_ofNat_of_zero_le hy.1
   rw [atI_yes hok (by omega), atI_yes hok (by omega), beside_eq hr, hok]
   simp
theorem beside_i {B L : Nat} (v : CV) (k : Cd) (x y : Int) (w : World) (hk : CodeAt w B v k) (hcb : CdB L k) (hL : L ≤ 1048576) :
  Calls Tryz.prog 35 #[.agg #[.slice v.gA k.globals.length v.gc, .slice v.lA k.locks.length v.lc, .slice v.pA k.procs.length v.pc, .slice v.eA k.entry.length v.ec, .slice v.iA k.ins.length v.ic], .int .i64 x, .int .i64 y] w (fun e w' => e = .returned (.bool (besideA k x y)) ∧ Below w.heap.size w w') := by
 have hkf := hk.full
 have hbx := codeBox w v k
 cases hok : codeOkI k
 ·
  have HW := Lib.hid (fun W (h : CodeAt W w.heap.size v k) => worldOf_no v k W h hcb (by omega) hok)
  have HZ := Lib.hid (show besideA k x y = false from by unfold besideA; rw [hok]; simp)
  clear hok hcb hk
  go_enter Tryz.func35, Tryz.ntmps35
  go_wp2_with fail
  generalize w.alloc (.cells #[.slice v.gA k.globals.length v.gc, .slice v.lA k.locks.length v.lc, .slice v.pA k.procs.length v.pc, .slice v.eA k.entry.length v.ec, .slice v.iA k.ins.length v.ic] 28) = W at hbx ⊢
  refine (HW.out _ (hkf.below hbx.1)).mono ?_
  rintro e w1 ⟨rfl, hb1⟩
  go_wp2_with fail
  go_ret
  exact ⟨ret_bool HZ.out.symm, below_trans' hbx.1 hb1⟩
 ·
  have hr := right_of hok
  have h8 := pow_le_256 hr
  have HW := Lib.hid (fun W (h : CodeAt W w.heap.size v k) => worldOf_yes v k W h hcb (by omega) hok)
  have HRA := Lib.hid (fun z W g (h : WAt W W.heap.size g v k) => rootsAt_pub g v k z W hr hok h)
  have HSG := Lib.hid (fun W g (h : WAt W W.heap.size g v k) => singles_any g v k W hr h)
  have HAP := Lib.hid (fun W => (show Calls Tryz.prog 111 #[.int .i64 (atI k x (atN k) : Nat), .int .i64 (atI k y (atN k) : Nat), .int .i64 (singN k : Nat)] W fun e w' => e = .returned (.bool (besideA k x y)) ∧ W = w' from by
   have := apart_any (atI k x (atN k)) (atI k y (atN k)) (singN k) W (Nat.lt_of_lt_of_le (atI_lt k x) h8) (Nat.lt_of_lt_of_le (atI_lt k y) h8) (Nat.lt_of_lt_of_le (setN_lt _ _) h8)
   rw [besideA_eq hok] at this
   exact this))
  clear hok hcb hk hr
  have HRX := Lib.hid (HRA.out x)
  have HRY := Lib.hid (HRA.out y)
  clear HRA
  generalize atI k x (atN k) = s at *
  generalize atI k y (atN k) = t at *
  generalize singN k = u at *
  go_enter Tryz.func35, Tryz.ntmps35
  go_wp2_with fail
  generalize w.alloc (.cells #[.slice v.gA k.globals.length v.gc, .slice v.lA k.locks.length v.lc, .slice v.pA k.procs.length v.pc, .slice v.eA k.entry.length v.ec, .slice v.iA k.ins.length v.ic] 28) = W at hbx ⊢
  refine (HW.out _ (hkf.below hbx.1)).mono ?_
  rintro e w1 ⟨g, rfl, hgl, hW, hb1⟩
  have hb01 := below_trans' hbx.1 hb1
  go_wp2_with fail
  refine (HRX.out _ _ hW).mono ?_
  rintro e w2 ⟨rfl, hb2⟩
  have hW2 := hW.below hb2
  go_wp2_with fail
  refine (HRY.out _ _ hW2).mono ?_
  rintro e w3 ⟨rfl, hb3⟩
  have hW3 := hW2.below hb3
  go_wp2_with fail
  refine (HSG.out _ _ hW3).mono ?_
  rintro e w4 ⟨rfl, hb4⟩
  go_wp2_with fail
  refine (HAP.out _).mono ?_
  rintro e w5 ⟨rfl, rfl⟩
  go_wp2_with fail
  go_ret
  exact ⟨rfl, below_trans' (below_trans' (below_trans' hb01 hb2) hb3) hb4⟩
end Go.Proofs.YtkgoajnnkimkaaaGreat
namespace Go.Proofs.YtkgoajnnkimkaaaGreat
open Classical
theorem comes_last {nx : Nat → List Nat} {a b : Nat} (h : Comes nx a b) (hne : b ≠ a) : ∃ c, Comes nx a c ∧ b ∈ nx c := by
 rcases h with h | h
 ·
  exact absurd h hne
 ·
  cases h with
  | one h => exact ⟨a, Comes.refl _ _, h⟩
  | step h1 h2 => exact ⟨_, .inr h1, h2⟩
theorem root_started {k : Cd} (hr : Right k) {r : Nat} (h : RootP k r) (hne : r ≠ mainN k) : (startsL k r).length ≠ 0 := by
 obtain ⟨c, h1, h2⟩ := comes_last h hne
 obtain ⟨_, q, h3, h4⟩ := mem_listN.1 h2
 have hu : UsedP k q := ⟨c, h1, h3⟩
 have hl := used_lt hr hu
 exact ops_sites hr (mem_listN.2 ⟨hl, hu⟩) hl h4
theorem root_used {k : Cd} {r : Nat} (h : RootP k r) : UsedP k r := ⟨r, h, Comes.refl _ _⟩
theorem beside_comm {k : Cd} {a b : Nat} : BesideP k a b ↔ BesideP k b a := by
 constructor
 ·
  rintro ⟨r, s, h1, h2, h3⟩
  refine ⟨s, r, h2, h1, ?_⟩
  by_cases e : r = s
  ·
   subst e; exact h3.imp (fun h => (h rfl).elim) id
  ·
   exact .inl fun h => e h.symm
 ·
  rintro ⟨r, s, h1, h2, h3⟩
  refine ⟨s, r, h2, h1, ?_⟩
  by_cases e : r = s
  ·
   subst e; exact h3.imp (fun h => (h rfl).elim) id
  ·
   exact .inl fun h => e h.symm
theorem two_in {l : List Nat} {r s : Nat} (h1 : r ∈ l) (h2 : s ∈ l) (h : r ≠ s) : 1 < l.length := by
 match l, h1, h2 with
 | [], h1, _ => simp at h1
 | [x], h1, h2 =>
  rw [List.mem_singleton] at h1 h2
  exact absurd (h1.trans h2.symm) h
 | _ :: _ :: _, _, _ => simp
theorem beside_self {k : Cd} (hr : Right k) (a : Nat) : besideB k a a = (listN k.procs.length (AtP k a)).any (fun r => decide (1 < (listN k.procs.length (AtP k a)).length) || !singB k r) := by
 unfold besideB
 rw [Bool.eq_iff_iff, decide_eq_true_iff, List.any_eq_true]
 constructor
 ·
  rintro ⟨r, s, h1, h2, h3⟩
  have m1 := mem_listN.2 ⟨at_lt hr h1, h1⟩
  have m2 := mem_listN.2 ⟨at_lt hr h2, h2⟩
  refine ⟨r, m1, ?_⟩
  rcases h3 with h3 | h3
  ·
   rw [decide_eq_true (two_in m1 m2 h3)]; rfl
  ·
   rw [singB_no h3]; simp
 ·
  rintro ⟨r, m1, h⟩
  rw [Bool.or_eq_true, decide_eq_true_iff] at h
  have h1 := (mem_listN.1 m1).2
  rcases h with h | h
  ·
   have hn : (listN k.procs.length (AtP k a)).Nodup := List.nodup_range.filter _
   generalize hl : listN k.procs.length (AtP k a) = l at h hn m1
   have h0 : 0 < l.length := by omega
   have ha : ∀ x ∈ l, AtP k a x := fun x hx => (mem_listN.1 (by rw [hl]; exact hx)).2
   refine ⟨l[0], l[1], ha _ (List.getElem_mem h0), ha _ (List.getElem_mem h), .inl fun e => ?_⟩
   have := (List.getElem_inj hn).1 e
   omega
  ·
   exact ⟨r, r, h1, h1, .inr fun hs => by rw [singB_yes hs] at h; simp at h⟩
theorem main_at {k : Cd} (hr : Right k) {r : Nat} (hp : r < k.procs.length) (h : ¬ k.procs[r] = mainS) : r ≠ mainN k := by
 rintro rfl
 exact h (List.getElem_idxOf hp)
theorem main_starts {k : Cd} (hr : Right k) {r : Nat} (h : RootP k r) (hp : r < k.procs.length) (hm : ¬ k.procs[r] = mainS) : (startsL k r).length ≠ 0 := root_started hr h (main_at hr hp hm)
theorem besideA_yes {k : Cd} (hok : codeOkI k = true) {a b : Nat} (ha : a < k.ins.length) (hb : b < k.ins.length) : besideA k (a : Int) (b : Int) = besideB k a b := by
 unfold besideA
 have h1 : ((a : Int) < (k.ins.length : Int)) := by omega
 have h2 : ((b : Int) < (k.ins.length : Int)) := by omega
 simp [hok, h1, h2]
theorem besideB_comm {k : Cd} (a b : Nat) : besideB k a b = besideB k b a := by
 unfold besideB
 rw [Bool.eq_iff_iff, decide_eq_true_iff, decide_eq_true_iff]
 exact beside_comm
theorem any_step {α : Type} (F : α → Bool) {l : List α} {j : Nat} (h : j < l.length) : (l.take (j + 1)).any F = ((l.take j).any F || F l[j]) := by
 rw [List.take_succ_eq_append_getElem h, List.any_append]
 simp
theorem main_list : mainS.toList = [109, 97, 105, 110] := by
 rw [ByteArray.toList_eq]
 rfl
theorem main_neq {s : ByteArray} (h : ¬ s = mainS) : (s.toList == [109, 97, 105, 110]) = false := by
 rw [beq_eq_false_iff_ne, ← main_list]
 exact fun e => h (str_inj e)
theorem main_eq {s : ByteArray} (h : s = mainS) : (s.toList == [109, 97, 105, 110]) = true := by
 rw [h, main_list]
 rfl
theorem ins_pos {k : Cd} (hr : Right k) : 0 < k.ins.length := by
 have h := hr.lt 0 (List.length_pos_of_mem hr.main)
 omega
end Go.Proofs.YtkgoajnnkimkaaaGreat
namespace Go.Proofs.YtkgoajnnkimkaaaGreat
open Go.ChangeShapes Go.WideShapes Go.ChangeAt Go.RowKit
theorem cells_byte : Tryz.prog.cellsOf 5 = 1 := by kernel_rfl
theorem u8_of_wf {n : Int} (h : (Lit.int .u8 n).wf = true) : 0 ≤ n ∧ n ≤ 255 := by
 simp [Lit.wf, IntKind.min, IntKind.max, IntKind.bits, IntKind.signed] at h
 omega
section
variable {H : Type} {enc : TypeId × Value → H} {W : World} {sp : Nat → Bool} {held : Bool}
theorem rd_bytes {fuel : Nat} {cs : List Value} {x : DataW H × List MemPlace} (h : DataW.trod enc Tryz.prog W 0 sp held fuel 22 cs = some x) :
  ∃ (A : Option Addr) (c : Nat) (b : List UInt8), cs = [.slice A b.length c] ∧ Rd W W.heap.size A (bytesV b) ∧ b.length ≤ 9223372036854775807 := by
 rcases open_ints Tryz.underlying22 Tryz.underlying5 cells_byte h with ⟨rfl, rfl⟩ | ⟨a, len, cap, zs, rfl, _, hlc, hcm, hzl, rfl, hcell, hwf⟩
 ·
  exact ⟨none, 0, [], rfl, Rd.nil, by simp⟩
 ·
  have hle : len ≤ zs.length := by rw [hzl]; split <;> omega
  unfold maxLen at hcm
  refine ⟨some a, cap, (zs.take len).map fun n => UInt8.ofNat n.toNat, by simp [Nat.min_eq_left hle], ?_, by simp; omega⟩
  intro j u hu
  simp only [bytesV, List.getElem?_map, List.getElem?_take] at hu
  by_cases hj : j < len
  ·
   rw [if_pos hj, List.getElem?_eq_getElem (by omega)] at hu
   simp only [Option.map_some, Option.some.injEq] at hu
   subst hu
   have hc := hcell j (by omega)
   rw [List.getD_eq_getElem?_getD, List.getElem?_eq_getElem (by omega)] at hc
   have hb := World.block_lt_of_cell? W _ hc
   rw [block_of_add] at hb
   have hw := u8_of_wf (hwf zs[j] (List.getElem_mem (by omega)))
   refine ⟨a, rfl, hb, ?_⟩
   rw [hc]
   simp only [Option.getD_some]
   congr 2
   rw [UInt8.toNat_ofNat']
   omega
  ·
   rw [if_neg hj] at hu
   simp at hu
end
theorem big_any {b : List UInt8} (A : Option Addr) (c : Nat) (w : World) (hn : b.length ≤ 9223372036854775807) :
  Calls Tryz.prog 11 #[.slice A b.length c] w fun e w' => e = .returned (.bool (decide (1048576 < b.length))) ∧ w' = w := by
 go_enter Tryz.func11, Tryz.ntmps11
 go_wp2_with fail
 go_ret
 exact ⟨ret_bool (decide_eq_decide.2 (by omega)), rfl⟩
end Go.Proofs.YtkgoajnnkimkaaaGreat
namespace Go.Proofs.YtkgoajnnkimkaaaGreat
open Go.ChangeShapes Go.WideShapes Go.ChangeAt Go.RowKit
theorem hasInt_any {B : Nat} (A : Option Addr) (c : Nat) (xs : List Nat) (n : Nat) (w : World) (h : Rd w B A (nv xs)) (hn : xs.length ≤ 1099511627776) :
  Calls Tryz.prog 27 #[.slice A xs.length c, .int .i64 (n : Int)] w fun e w' => e = .returned (.bool (decide (n ∈ xs))) ∧ Below w.heap.size w w' := by
 have h0 := h.full
 clear h
 go_enter Tryz.func27, Tryz.ntmps27
 go_wp2_with fail
 go_loopg [5] xs.length (fun l i wr => ∃ j : Nat, j ≤ xs.length ∧ l = xs.length - j ∧ i = .int .i64 j ∧ n ∉ xs.take j ∧ Below w.heap.size w wr)
 case atStart => exact ⟨0, by omega, by omega, rfl, by simp, Below.refl _ _⟩
 case round =>
  obtain ⟨j, hj, rfl, rfl, hno, hb⟩ := hrel
  have HNO := Lib.hid hno
  clear hno
  by_cases hlt : j < xs.length
  ·
   obtain ⟨ad, rfl, _, hc⟩ := (h0.below hb).nat hlt
   by_cases e : xs[j] = n
   ·
    have e1 : ((xs[j] : Int) == (n : Int)) = true := by simp [e]
    have HE := Lib.hid e
    clear e
    go_wp2_with fail
    go_ret
    exact ⟨ret_bool (by have : n ∈ xs := by { rw [← HE.out]; exact List.getElem_mem hlt }
                        simp [this]), hb⟩
   ·
    have e1 : ((xs[j] : Int) == (n : Int)) = false := by simp; omega
    have HE := Lib.hid e
    clear e
    go_wp2_with fail
    go_roundg (xs.length - (j + 1))
    case measure => omega
    case rel =>
     refine ⟨j + 1, by omega, rfl, by go_num, ?_, hb⟩
     rw [List.take_succ_eq_append_getElem hlt]
     simp only [List.mem_append, List.mem_singleton, not_or]
     exact ⟨HNO.out, fun h => HE.out h.symm⟩
  ·
   have hx : ¬ n ∈ xs := by have := HNO.out; rwa [List.take_of_length_le (by omega)] at this
   have HX := Lib.hid hx
   obtain rfl : j = xs.length := by omega
   go_wp2_with fail
   go_ret
   exact ⟨ret_bool (by simp [HX.out]), hb⟩
theorem below_drew0 (w : World) : Below w.heap.size w w.drew := (Below.refl _ _).drew
theorem sameInts_same {B B' : Nat} (A A' : Option Addr) (c d : Nat) (xs : List Nat) (w : World) (ha : Rd w B A (nv xs)) (hb : Rd w B' A' (nv xs)) (hx : xs.length ≤ 1099511627776) :
  Calls Tryz.prog 32 #[.slice A xs.length c, .slice A' xs.length d] w fun e w' => e = .returned (.bool true) ∧ Below w.heap.size w w' := by
 have hne : ((xs.length : Int) != xs.length) = false := by simp
 go_enter Tryz.func32, Tryz.ntmps32
 go_wp2
 go_loopw [5] (fun i wr => ∃ k : Nat, k ≤ xs.length ∧ i = .int .i64 k ∧ ∃ n, wr = w.drewN n) (fun i _ => xs.length - (intOf i).toNat)
 case atStart => exact ⟨0, Nat.zero_le _, rfl, 0, rfl⟩
 case round =>
  obtain ⟨k, hk, rfl, n, rfl⟩ := hrel
  by_cases hlt : k < xs.length
  ·
   obtain ⟨ad, rfl, _, hc⟩ := ha.nat hlt
   obtain ⟨bd, rfl, _, hd⟩ := hb.nat hlt
   have hq : ((xs[k] : Int) != (xs[k] : Int)) = false := by simp
   go_wp2
   go_quiet (fail)
   go_wp2
   go_roundw
   case rel => exact ⟨k + 1, by omega, by go_num, _, rfl⟩
   case measure => simp [intOf]; omega
  ·
   go_wp2
   go_ret
   exact ⟨rfl, below_drewN (Below.refl _ _) _⟩
structure LB (w : World) (k : Cd) (gk gs : Nat) (v u : CV) (W : World) : Prop where
 low : Below w.heap.size w W
 kk : KAt W gk v k
 ks : KAt W gs u k
 ck : CodeAt W W.heap.size v k
 cs : CodeAt W W.heap.size u k
theorem LB.to {w W W' : World} {k : Cd} {gk gs : Nat} {v u : CV} (h : LB w k gk gs v u W) (hb : Below W.heap.size W W') : LB w k gk gs v u W' :=
 ⟨below_trans' h.low hb, h.kk.to hb, h.ks.to hb, (h.ck.below hb).full, (h.cs.below hb).full⟩
theorem LB.drew {w W : World} {k : Cd} {gk gs : Nat} {v u : CV} (h : LB w k gk gs v u W) : LB w k gk gs v u W.drew := h.to (below_drew0 W)
structure LS (w : World) (k : Cd) (gk gs : Nat) (v u : CV) (rows : List (Option Addr × List Nat)) (W : World) : Prop where
 lb : LB w k gk gs v u W
 rd : ∀ p ∈ rows, Rd W W.heap.size p.1 (nv p.2)
section
variable {w W W' : World} {k : Cd} {gk gs : Nat} {v u : CV} {rows : List (Option Addr × List Nat)}
theorem LS.to (h : LS w k gk gs v u rows W) (hb : Below W.heap.size W W') : LS w k gk gs v u rows W' := ⟨h.lb.to hb, fun p hp => ((h.rd p hp).below hb).full⟩
theorem LS.drew (h : LS w k gk gs v u rows W) : LS w k gk gs v u rows W.drew := h.to (below_drew0 W)
theorem LS.add {A : Option Addr} {xs : List Nat} (h : LS w k gk gs v u rows W) (hr : Rd W W.heap.size A (nv xs)) : LS w k gk gs v u ((A, xs) :: rows) W :=
 ⟨h.lb, fun p hp => by rcases List.mem_cons.1 hp with rfl | hp; exact hr; exact h.rd p hp⟩
theorem LB.ls (h : LB w k gk gs v u W) : LS w k gk gs v u [] W := ⟨h, fun p hp => by simp at hp⟩
theorem LS.at_ {ad : Addr} {xs : List Nat} (h : LS w k gk gs v u rows W) (hm : (some ad, xs) ∈ rows) {j : Nat} (hj : j < xs.length) : W.cell? (ad.add j) = some (.int .i64 (xs[j] : Int)) := by
 obtain ⟨ad', e, _, hc⟩ := (h.rd _ hm).nat hj
 injection e with e
 rw [e]; exact hc
theorem LS.some_ {A : Option Addr} {xs : List Nat} (h : LS w k gk gs v u rows W) (hm : (A, xs) ∈ rows) (hj : 0 < xs.length) : ∃ ad, A = some ad := by
 obtain ⟨ad', e, _, hc⟩ := (h.rd _ hm).nat hj
 exact ⟨ad', e⟩
end
theorem hasInt_yes {B : Nat} (A : Option Addr) (c : Nat) (xs : List Nat) (n : Nat) (w : World) (h : Rd w B A (nv xs)) (hn : xs.length ≤ 1099511627776) (hm : n ∈ xs) :
  Calls Tryz.prog 27 #[.slice A xs.length c, .int .i64 (n : Int)] w fun e w' => e = .returned (.bool true) ∧ Below w.heap.size w w' := by
 have := hasInt_any A c xs n w h hn
 rwa [decide_eq_true hm] at this
end Go.Proofs.YtkgoajnnkimkaaaGreat
namespace Go.Proofs.YtkgoajnnkimkaaaGreat
open Go.ChangeShapes Go.WideShapes Go.ChangeAt Go.RowKit
theorem add_0 (ad : Addr) : ad.add 0 = ad := by simp [Addr.add]
end Go.Proofs.YtkgoajnnkimkaaaGreat
namespace Go.Proofs.YtkgoajnnkimkaaaGreat
open Go.ChangeShapes Go.WideShapes Go.ChangeAt Go.RowKit
structure LK (W : World) (base g gm gx : Nat) (v : CV) (k : Cd) (ms : List Bool) (xs : List Nat) (new : Bool) : Prop where
 blk : W.heap[g]? = some (.cells #[.slice v.gA k.globals.length v.gc, .slice v.lA k.locks.length v.lc, .slice v.pA k.procs.length v.pc, .slice v.eA k.entry.length v.ec, .slice v.iA k.ins.length v.ic, .slice (some ⟨gm, 0, none⟩) k.ins.length k.ins.length, .slice (some ⟨gx, 0, none⟩) k.ins.length k.ins.length, .bool new] 100)
 rm : W.ownsRow base 4 1 (.slice (some ⟨gm, 0, none⟩) k.ins.length k.ins.length) k.ins.length (ms.map bv)
 rx : W.ownsRow base 3 1 (.slice (some ⟨gx, 0, none⟩) k.ins.length k.ins.length) k.ins.length (nv xs)
 ne : g ≠ gm ∧ g ≠ gx ∧ gm ≠ gx
 lo : base ≤ g
section
variable {W W' : World} {base g gm gx : Nat} {v : CV} {k : Cd} {ms : List Bool} {xs : List Nat} {new : Bool}
theorem LK.lt (h : LK W base g gm gx v k ms xs new) : g < W.heap.size := (Array.getElem?_eq_some_iff.1 h.blk).1
theorem LK.cell (h : LK W base g gm gx v k ms xs new) (j : Nat) {u : Value} (hu : (#[.slice v.gA k.globals.length v.gc, .slice v.lA k.locks.length v.lc, .slice v.pA k.procs.length v.pc, .slice v.eA k.entry.length v.ec, .slice v.iA k.ins.length v.ic, .slice (some ⟨gm, 0, none⟩) k.ins.length k.ins.length, .slice (some ⟨gx, 0, none⟩) k.ins.length k.ins.length, .bool new] : Array Value)[j]? = some u) : W.cell? ⟨g, j, none⟩ = some u := (row_facts h.blk).1 j u hu
theorem LK.free (h : LK W base g gm gx v k ms xs new) (j : Nat) : W.frozen? ⟨g, j, none⟩ = false := (row_facts h.blk).2 j
theorem LK.kat (h : LK W base g gm gx v k ms xs new) : KAt W g v k := ⟨h.cell 0 rfl, h.cell 1 rfl, h.cell 2 rfl, h.cell 3 rfl, h.cell 4 rfl⟩
theorem LK.below (h : LK W base g gm gx v k ms xs new) (hb : Below W.heap.size W W') : LK W' base g gm gx v k ms xs new :=
 ⟨(hb.block g h.lt).trans h.blk, own_below h.rm hb, own_below h.rx hb, h.ne, h.lo⟩
theorem LK.mark (h : LK W base g gm gx v k ms xs new) (x : Nat) : LK (W.setCell ⟨gm, x, none⟩ (.bool true)) base g gm gx v k (ms.set x true) xs new := by
 obtain ⟨s1, s2⟩ := h.rm.stored x (bv true)
 rw [bv_set] at s1
 refine ⟨set_row_other h.blk (a := ⟨gm, x, none⟩) h.ne.1 _, s1, h.rx.kept s2 (.inr ?_), h.ne, h.lo⟩
 intro e
 injection e with e
 exact h.ne.2.2 e.symm
theorem LK.put (h : LK W base g gm gx v k ms xs new) (x y : Nat) {u : Int} (hu : u = y) : LK (W.setCell ⟨gx, x, none⟩ (.int .i64 u)) base g gm gx v k ms (xs.set x y) new := by
 subst hu
 obtain ⟨s1, s2⟩ := h.rx.stored x (.int .i64 (y : Int))
 rw [nv_set] at s1
 refine ⟨set_row_other h.blk (a := ⟨gx, x, none⟩) h.ne.2.1 _, h.rm.kept s2 (.inr ?_), s1, h.ne, h.lo⟩
 intro e
 injection e with e
 exact h.ne.2.2 e
end
structure Tch (g gm gx : Nat) (w w' : World) : Prop where
 os : w'.os = w.os
 tape : w'.tape = w.tape
 output : w'.output = w.output
 size : w.heap.size ≤ w'.heap.size
 block : ∀ b, b < w.heap.size → b ≠ g → b ≠ gm → b ≠ gx → w'.heap[b]? = w.heap[b]?
section
variable {g gm gx : Nat} {w w1 w2 : World}
theorem Tch.refl (g gm gx : Nat) (w : World) : Tch g gm gx w w := ⟨rfl, rfl, rfl, Nat.le_refl _, fun _ _ _ _ _ => rfl⟩
theorem Tch.trans (h : Tch g gm gx w w1) (k : Tch g gm gx w1 w2) : Tch g gm gx w w2 :=
 ⟨k.os.trans h.os, k.tape.trans h.tape, k.output.trans h.output, Nat.le_trans h.size k.size, fun b hb h1 h2 h3 => (k.block b (Nat.lt_of_lt_of_le hb h.size) h1 h2 h3).trans (h.block b hb h1 h2 h3)⟩
theorem Tch.of_below (h : Below w.heap.size w w1) : Tch g gm gx w w1 := ⟨h.os, h.tape, h.output, h.size, fun b hb _ _ _ => h.block b hb⟩
theorem Tch.drew (h : Tch g gm gx w w1) : Tch g gm gx w w1.drew := ⟨h.os, h.tape, h.output, h.size, h.block⟩
theorem Tch.set (h : Tch g gm gx w w1) {a : Addr} (ha : a.block = g ∨ a.block = gm ∨ a.block = gx) (x : Value) : Tch g gm gx w (w1.setCell a x) :=
 h.trans ⟨(grown_set w1 a x).os, (grown_set w1 a x).tape, (grown_set w1 a x).output, (grown_set w1 a x).size, fun b hb h1 h2 h3 => (grown_set w1 a x).block b hb fun e => by
  injection e with e
  rcases ha with h | h | h
  ·
   exact h1 (e.trans h)
  ·
   exact h2 (e.trans h)
  ·
   exact h3 (e.trans h)⟩
theorem Tch.below (h : Tch g gm gx w w1) {B : Nat} (h0 : B ≤ w.heap.size) (h1 : B ≤ g) (h2 : B ≤ gm) (h3 : B ≤ gx) : Below B w w1 :=
 ⟨h.os, h.tape, h.output, h.size, fun b hb => h.block b (by omega) (by omega) (by omega) (by omega)⟩
theorem Tch.own (h : Tch g gm gx w w1) {base : Nat} {t : TypeId} {size n : Nat} {v : Value} {xs : List Value} (ho : w.ownsRow base t size v n xs) (h1 : g < base) (h2 : gm < base) (h3 : gx < base) : w1.ownsRow base t size v n xs := by
 refine ⟨ho.1, ?_⟩
 rcases ho.2 with h0 | ⟨b, cap, cur, e, hb, hh, r⟩
 ·
  exact .inl h0
 ·
  exact .inr ⟨b, cap, cur, e, hb, (h.block b (Array.getElem?_eq_some_iff.1 hh).1 (by omega) (by omega) (by omega)).trans hh, r⟩
end
end Go.Proofs.YtkgoajnnkimkaaaGreat
namespace Go.Proofs.YtkgoajnnkimkaaaGreat
open Go.ChangeShapes Go.WideShapes Go.ChangeAt Go.RowKit
def Cnd (k : Cd) (a b r s : Nat) : Prop := RootP k r ∧ RootP k s ∧ FromP k r a ∧ FromP k s b ∧ (r ≠ s ∨ ¬ SingR k r)
def TabP (k : Cd) (a b : Nat) : Prop := ∃ r s, Cnd k a b r s
structure RowI (k : Cd) (a b r0 s0 : Nat) (ms : List Bool) : Prop where
 len : ms.length = k.procs.length
 iff_ : ∀ x, x < k.procs.length → (mkd ms x = true ↔ (x < b ∧ TabP k a x) ∨ (x = b ∧ ∃ r s, (r < r0 ∨ (r = r0 ∧ s < s0)) ∧ Cnd k a b r s))
section
variable {k : Cd} {a b r0 s0 : Nat} {ms : List Bool}
theorem RowI.start (k : Cd) (a : Nat) : RowI k a 0 0 0 (List.replicate k.procs.length false) := by
 refine ⟨by simp, fun x hx => ?_⟩
 rw [mkd_replicate]
 constructor
 ·
  intro h; simp at h
 ·
  rintro (⟨h, _⟩ | ⟨_, r, s, h, _⟩) <;> omega
theorem RowI.skip (h : RowI k a b r0 s0 ms) (hn : ¬ Cnd k a b r0 s0) : RowI k a b r0 (s0 + 1) ms := by
 refine ⟨h.len, fun x hx => (h.iff_ x hx).trans ⟨fun g => g.imp id fun ⟨e, r, s, g1, g2⟩ => ⟨e, r, s, g1.imp id fun g => ⟨g.1, by omega⟩, g2⟩, fun g => g.imp id fun ⟨e, r, s, g1, g2⟩ => ⟨e, r, s, ?_, g2⟩⟩⟩
 rcases g1 with g1 | ⟨g1, g3⟩
 ·
  exact .inl g1
 ·
  rcases Nat.lt_or_ge s s0 with g4 | g4
  ·
   exact .inr ⟨g1, g4⟩
  ·
   obtain rfl : s = s0 := by omega
   subst g1
   exact absurd g2 hn
theorem RowI.hit (h : RowI k a b r0 s0 ms) (hb : b < k.procs.length) (hc : Cnd k a b r0 s0) : RowI k a b r0 (s0 + 1) (ms.set b true) := by
 refine ⟨by simp [h.len], fun x hx => ?_⟩
 rw [mkd_set (by rw [h.len]; exact hb)]
 split
 ·
  rename_i e
  subst e
  exact ⟨fun _ => .inr ⟨rfl, r0, s0, .inr ⟨rfl, by omega⟩, hc⟩, fun _ => rfl⟩
 ·
  rename_i e
  refine (h.iff_ x hx).trans ⟨fun g => ?_, fun g => ?_⟩
  ·
   rcases g with g | ⟨e1, _⟩
   ·
    exact .inl g
   ·
    exact absurd e1.symm e
  ·
   rcases g with g | ⟨e1, _⟩
   ·
    exact .inl g
   ·
    exact absurd e1.symm e
theorem RowI.nextr (h : RowI k a b r0 s0 ms) (hr : Right k) (hs : s0 = k.procs.length) : RowI k a b (r0 + 1) 0 ms := by
 refine ⟨h.len, fun x hx => (h.iff_ x hx).trans ⟨fun g => g.imp id fun ⟨e, r, s, g1, g2⟩ => ⟨e, r, s, .inl (by omega), g2⟩, fun g => g.imp id fun ⟨e, r, s, g1, g2⟩ => ⟨e, r, s, ?_, g2⟩⟩⟩
 have := root_lt hr g2.2.1
 omega
theorem RowI.nextb (h : RowI k a b r0 s0 ms) (hr : Right k) (hr0 : r0 = k.procs.length) : RowI k a (b + 1) 0 0 ms := by
 refine ⟨h.len, fun x hx => (h.iff_ x hx).trans ⟨fun g => ?_, fun g => ?_⟩⟩
 ·
  rcases g with ⟨g1, g2⟩ | ⟨e, r, s, _, g2⟩
  ·
   exact .inl ⟨by omega, g2⟩
  ·
   exact .inl ⟨by omega, r, s, by rw [e]; exact g2⟩
 ·
  rcases g with ⟨g1, g2⟩ | ⟨e, r, s, g1, _⟩
  ·
   rcases Nat.lt_or_ge x b with g3 | g3
   ·
    exact .inl ⟨g3, g2⟩
   ·
    obtain rfl : x = b := by omega
    obtain ⟨r, s, g4⟩ := g2
    exact .inr ⟨rfl, r, s, .inl (by have := root_lt hr g4.1; omega), g4⟩
  ·
   omega
theorem RowI.full (h : RowI k a b 0 0 ms) (hb : b = k.procs.length) : ms = markL k.procs.length (TabP k a) :=
 eq_markL h.len fun x hx => (h.iff_ x hx).trans ⟨fun g => by
  rcases g with g | ⟨e, _⟩
  ·
   exact g.2
  ·
   omega, fun g => .inl ⟨by omega, g⟩⟩
end
theorem info_row : (Tryz.prog.info? 87).map (fun i => (i.zero, i.size, i.bytes)) = some (some (.slice none 0 0), 1, 24) := by kernel_rfl
def rowsV (n : Nat) (fr : List (Option Addr × Nat)) : List Value := fr.map fun p => .slice p.1 n p.2
section
variable (w : World) {ops : Array Oper} {rest : List Oper} {o : Oper} {a : Act} {Q : Exit → Act → World → Prop}
theorem append_row {wr : World} (m : Nat) (p : Option Addr × Nat) (hgd : o.guard = none) (s x : Operand) (ho : o.op = .call { callee := .builtin .append, args := #[s, x], argTypes := #[94, 94] })
  {base : Nat} {v : Value} {n : Nat} {fr : List (Option Addr × Nat)} (hown : wr.ownsRow base 87 1 v n (rowsV m fr)) (hs : a.eval s = v) (hx : a.eval x = .slice (some ⟨wr.heap.size, 0, none⟩) 1 1)
  (hn : n ≤ 1099511627775) (hbase : base ≤ wr.heap.size)
  (hK : ∀ A c w', w'.ownsRow base 87 1 (.slice A (n + 1) c) (n + 1) (rowsV m (fr ++ [p])) → wr.grownBy w' v.ownBlock → ((Value.slice A (n + 1) c).ownBlock = v.ownBlock ∨ (Value.slice A (n + 1) c).ownBlock = some (wr.heap.size + 1)) →
   wpList Tryz.prog ops Q rest (a.put o.dst (.slice A (n + 1) c)) w') : wpList Tryz.prog ops Q (o :: rest) a (wr.alloc (.cells #[.slice p.1 m p.2] 87)) :=
 append_cells Tryz.underlying94 info_row rfl (by omega) (by omega) hgd s x ho [.slice p.1 m p.2] hown hs hx rfl (by simp [Value.oneCell']) hn hbase
  fun A c w' h1 h2 h3 => hK A c w' (by simpa [rowsV] using h1) h2 h3
theorem append_bool {wr : World} (y : Bool) (hgd : o.guard = none) (s x : Operand) (ho : o.op = .call { callee := .builtin .append, args := #[s, x], argTypes := #[87, 87] })
  {base : Nat} {v : Value} {n : Nat} {bs : List Bool} (hown : wr.ownsRow base 4 1 v n (bs.map bv)) (hs : a.eval s = v) (hx : a.eval x = .slice (some ⟨wr.heap.size, 0, none⟩) 1 1)
  (hn : n ≤ 1099511627775) (hbase : base ≤ wr.heap.size)
  (hK : ∀ A c w', w'.ownsRow base 4 1 (.slice A (n + 1) c) (n + 1) ((bs ++ [y]).map bv) → wr.grownBy w' v.ownBlock → ((Value.slice A (n + 1) c).ownBlock = v.ownBlock ∨ (Value.slice A (n + 1) c).ownBlock = some (wr.heap.size + 1)) →
   wpList Tryz.prog ops Q rest (a.put o.dst (.slice A (n + 1) c)) w') : wpList Tryz.prog ops Q (o :: rest) a (wr.alloc (.cells #[.bool y] 4)) :=
 append_cells Tryz.underlying87 info_bool rfl (by omega) (by omega) hgd s x ho [.bool y] hown hs hx rfl (by simp [Value.oneCell']) hn hbase
  fun A c w' h1 h2 h3 => hK A c w' (by simpa [bv] using h1) h2 h3
end
def Ne (a b : Value) : Prop := ∀ x, a.ownBlock = some x → b.ownBlock ≠ some x
theorem own_kept {w w' : World} {base : Nat} {t : TypeId} {n : Nat} {v u : Value} {xs : List Value} (h : w.ownsRow base t 1 v n xs) (hg : w.grownBy w' u.ownBlock) (hne : Ne v u) : w'.ownsRow base t 1 v n xs :=
 h.kept hg (by
  cases e : v.ownBlock with
  | none => exact .inl rfl
  | some g => exact .inr fun e2 => hne g e e2.symm)
theorem Ne.new {w : World} {base : Nat} {t : TypeId} {n : Nat} {v u u' : Value} {xs : List Value} (h : w.ownsRow base t 1 v n xs) (hne : Ne v u) (hu : u'.ownBlock = u.ownBlock ∨ u'.ownBlock = some (w.heap.size + 1)) : Ne v u' := fun x hx hx' => by
 rcases hu with e | e
 ·
  exact hne x hx (e.symm.trans hx')
 ·
  rw [e] at hx'
  injection hx' with hx'
  have := (h.lt x hx).2
  omega
theorem Ne.fresh {w : World} {base lo : Nat} {t t' : TypeId} {n m : Nat} {v u : Value} {xs ys : List Value} {w' : World} (h : w'.ownsRow lo t 1 v n xs) (g : w.ownsRow base t' 1 u m ys) (hl : w.heap.size ≤ lo) : Ne v u := fun x hx hx' => by
 have h1 := (h.lt x hx).1
 have h2 := (g.lt x hx').2
 omega
theorem Ne.symm' {a b : Value} (h : Ne a b) : Ne b a := fun x hx hx' => h x hx' hx
structure RR (W : World) (b0 n : Nat) (P : Nat → Nat → Prop) (v : Value) (fr : List (Option Addr × Nat)) : Prop where
 f : W.ownsRow b0 87 1 v fr.length (rowsV n fr)
 r : ∀ i (h : i < fr.length), W.ownsRow b0 4 1 (.slice fr[i].1 n fr[i].2) n ((markL n (P i)).map bv)
 ne : ∀ p ∈ fr, Ne (.slice p.1 n p.2) v
theorem RR.below {W W' : World} {b0 n : Nat} {P : Nat → Nat → Prop} {v : Value} {fr : List (Option Addr × Nat)} (h : RR W b0 n P v fr) (hb : Below W.heap.size W W') : RR W' b0 n P v fr :=
 ⟨own_below h.f hb, fun i hi => own_below (h.r i hi) hb, h.ne⟩
theorem RR.kept {W W' : World} {b0 n : Nat} {P : Nat → Nat → Prop} {v u : Value} {fr : List (Option Addr × Nat)} (h : RR W b0 n P v fr) (hg : W.grownBy W' u.ownBlock) (h1 : Ne v u) (h2 : ∀ p ∈ fr, Ne (.slice p.1 n p.2) u) : RR W' b0 n P v fr :=
 ⟨own_kept h.f hg h1, fun i hi => own_kept (h.r i hi) hg (h2 _ (List.getElem_mem hi)), h.ne⟩
theorem RR.add {W W' : World} {b0 n : Nat} {P : Nat → Nat → Prop} {v v' : Value} {fr : List (Option Addr × Nat)} {A : Option Addr} {c : Nat} (h : RR W b0 n P v fr) (hn : W.ownsRow b0 4 1 (.slice A n c) n ((markL n (P fr.length)).map bv)) (hne : Ne (.slice A n c) v)
  (hf : W'.ownsRow b0 87 1 v' (fr.length + 1) (rowsV n (fr ++ [(A, c)]))) (hg : W.grownBy W' v.ownBlock) (hv : v'.ownBlock = v.ownBlock ∨ v'.ownBlock = some (W.heap.size + 1)) : RR W' b0 n P v' (fr ++ [(A, c)]) := by
 refine ⟨by rw [List.length_append]; exact hf, fun i hi => ?_, fun p hp => ?_⟩
 ·
  rw [List.length_append, List.length_singleton] at hi
  rcases Nat.lt_or_ge i fr.length with hl | hl
  ·
   rw [List.getElem_append_left hl]
   exact own_kept (h.r i hl) hg (h.ne _ (List.getElem_mem hl))
  ·
   obtain rfl : i = fr.length := by omega
   rw [List.getElem_append_right (Nat.le_refl _)]
   simp only [Nat.sub_self, List.getElem_cons_zero]
   exact own_kept hn hg hne
 ·
  rcases List.mem_append.1 hp with hp | hp
  ·
   obtain ⟨i, hi, rfl⟩ := List.getElem_of_mem hp
   exact Ne.new (h.r i hi) (h.ne _ (List.getElem_mem hi)) hv
  ·
   rw [List.mem_singleton.1 hp]
   exact Ne.new hn hne hv
theorem Tch.ownne {g : Nat} {w w1 : World} (h : Tch g g g w w1) {base : Nat} {t : TypeId} {size n : Nat} {v : Value} {xs : List Value} (ho : w.ownsRow base t size v n xs) (hne : v.ownBlock ≠ some g) : w1.ownsRow base t size v n xs := by
 refine ⟨ho.1, ?_⟩
 rcases ho.2 with h0 | ⟨b, cap, cur, e, hb, hh, r⟩
 ·
  exact .inl h0
 ·
  refine .inr ⟨b, cap, cur, e, hb, ?_, r⟩
  subst e
  have hbg : b ≠ g := fun e => hne (by rw [← e]; rfl)
  exact (h.block b (Array.getElem?_eq_some_iff.1 hh).1 hbg hbg hbg).trans hh
theorem RR.tch {W W' : World} {b0 n g : Nat} {P : Nat → Nat → Prop} {v : Value} {fr : List (Option Addr × Nat)} (h : RR W b0 n P v fr) (ht : Tch g g g W W') (h1 : v.ownBlock ≠ some g) (h2 : ∀ p ∈ fr, (Value.slice p.1 n p.2).ownBlock ≠ some g) : RR W' b0 n P v fr :=
 ⟨ht.ownne h.f h1, fun i hi => ht.ownne (h.r i hi) (h2 _ (List.getElem_mem hi)), h.ne⟩
theorem RR.read {W : World} {b0 n m c : Nat} {P : Nat → Nat → Prop} {ad : Addr} {fr : List (Option Addr × Nat)} (h : RR W b0 n P (.slice (some ad) m c) fr) (hm : m = fr.length) {i j : Nat} (hi : i < fr.length) (hj : j < n) :
  ∃ ad' c', W.cell? (ad.add i) = some (.slice (some ad') n c') ∧ W.cell? (ad'.add j) = some (.bool (mkd (markL n (P i)) j)) := by
 subst hm
 obtain ⟨ad1, e1, _, hc⟩ := (own_rd h.f) i (.slice fr[i].1 n fr[i].2) (by simp [rowsV, hi])
 injection e1 with e1
 subst e1
 obtain ⟨ad2, e2, _, hc2⟩ := (own_rd (h.r i hi)).mark (j := j) (by rw [markL_len]; exact hj)
 rw [e2] at hc
 exact ⟨ad2, fr[i].2, hc, hc2⟩
theorem RR.some_ {W : World} {b0 n m c : Nat} {P : Nat → Nat → Prop} {A : Option Addr} {fr : List (Option Addr × Nat)} (h : RR W b0 n P (.slice A m c) fr) (hm : m = fr.length) (h0 : 0 < fr.length) : ∃ ad, A = some ad := by
 subst hm
 obtain ⟨ad1, e1, _, hc⟩ := (own_rd h.f) 0 (.slice fr[0].1 n fr[0].2) (by simp [rowsV, h0])
 exact ⟨ad1, e1⟩
def NewTab (w : World) (n : Nat) (P : Nat → Nat → Prop) (e : Ending) (w' : World) : Prop :=
 ∃ A c fr, e = .returned (.slice A n c) ∧ fr.length = n ∧ RR w' w.heap.size n P (.slice A n c) fr ∧ Below w.heap.size w w'
theorem l14Table_any {B L : Nat} (v : CV) (k : Cd) (w : World) (hr : Right k) (hk : CodeAt w B v k) (hcb : CdB L k) (hL : L ≤ 1048576) :
  Calls Tryz.prog 114 #[.agg #[.slice v.gA k.globals.length v.gc, .slice v.lA k.locks.length v.lc, .slice v.pA k.procs.length v.pc, .slice v.eA k.entry.length v.ec, .slice v.iA k.ins.length v.ic]] w (NewTab w k.procs.length (TabP k)) := by
 have hkf := hk.full
 have hbx := codeBox w v k
 have hpl := hr.procs
 have h0p := List.length_pos_of_mem hr.main
 have HR := Lib.hid hr
 have HRT := Lib.hid (fun W (hb : Below w.heap.size w W) => l14Roots_any v k W hr (hkf.below hb))
 have HFR := Lib.hid (fun p (hp : p < k.procs.length) W (hb : Below w.heap.size w W) => l10From_any v k p W hr (hkf.below hb) hp)
 have HSG := Lib.hid (fun p (hp : p < k.procs.length) (hrt : RootP k p) W (hb : Below w.heap.size w W) => l14Single_any v k p W hr (hkf.below hb) hcb hL hp hrt)
 clear hr hk hkf hcb
 go_enter Tryz.func114, Tryz.ntmps114
 go_wp2_with fail
 generalize w.alloc (.cells #[.slice v.gA k.globals.length v.gc, .slice v.lA k.locks.length v.lc, .slice v.pA k.procs.length v.pc, .slice v.eA k.entry.length v.ec, .slice v.iA k.ins.length v.ic] 28) = W at hbx ⊢
 refine (HRT.out _ hbx.1).mono ?_
 rintro e w2 ⟨Ar, cr, rfl, hor, hb2⟩
 rw [markL_len]
 have hbx2 := hbx.to hb2
 have hw2 := hbx2.2.1
 have HBX := Lib.hid (fun V (hb : Below w2.heap.size w2 V) => hbx2.to hb)
 have HRR := Lib.hid (fun V (hb : Below w2.heap.size w2 V) => (own_rd hor).below hb)
 have hf0 : (w2.alloc (.cells #[] 87)).ownsRow w2.heap.size 87 1 (.slice (some ⟨w2.heap.size, 0, none⟩) 0 0) 0 (rowsV k.procs.length []) := by
  have := World.ownsRow_lit (base := w2.heap.size) (e := 87) (size := 1) w2 #[] 0 (Nat.le_refl _) (by simp) rfl
  simpa [rowsV] using this
 have hbA := below_alloc0 w2 (.cells #[] 87)
 have hbB := below_alloc0 (w2.alloc (.cells #[] 87)) (.cells #[] 4)
 have hs0 : ((w2.alloc (.cells #[] 87)).alloc (.cells #[] 4)).ownsRow w2.heap.size 4 1 (.slice (some ⟨w2.heap.size + 1, 0, none⟩) 0 0) 0 ((([] : List Bool)).map bv) := by
  have := World.ownsRow_lit (base := w2.heap.size) (e := 4) (size := 1) (w2.alloc (.cells #[] 87)) #[] 0 (by simp) (by simp) rfl
  simpa using this
 have hR0 : RR ((w2.alloc (.cells #[] 87)).alloc (.cells #[] 4)) w2.heap.size k.procs.length (fun r a => FromP k r a) (.slice (some ⟨w2.heap.size, 0, none⟩) 0 0) [] :=
  ⟨own_below hf0 hbB, fun i hi => by simp at hi, fun p hp => by simp at hp⟩
 have hbAB := below_trans' hbA hbB
 have hne0 : Ne (.slice (some ⟨w2.heap.size, 0, none⟩) 0 0) (.slice (some ⟨w2.heap.size + 1, 0, none⟩) 0 0) := fun x h1 h2 => by
  injection h1 with h1
  injection h2 with h2
  simp at h1 h2
  omega
 obtain ⟨q1, q2, c0, c1, c2, c3, c4⟩ := HBX.out _ hbAB
 clear hf0 hbA hbB hbx hb2 hor hbx2
 go_wp2_with fail
 clear q1 q2 c0 c1 c2 c3 c4
 go_loopg [4, 5, 6] k.procs.length (fun l vf vs i wr => ∃ (j : Nat) (fr : List (Option Addr × Nat)), j ≤ k.procs.length ∧ fr.length = j ∧ l = k.procs.length - j ∧ i = .int .i64 j ∧ RR wr w2.heap.size k.procs.length (fun r a => FromP k r a) vf fr ∧ wr.ownsRow w2.heap.size 4 1 vs j (((List.range j).map (singB k)).map bv) ∧ Ne vf vs ∧ (∀ p ∈ fr, Ne (.slice p.1 k.procs.length p.2) vs) ∧ Below w2.heap.size w2 wr)
 case atStart => exact ⟨0, [], by omega, rfl, by omega, rfl, hR0, hs0, hne0, fun p hp => by simp at hp, hbAB⟩
 case round =>
  clear hR0 hs0 hne0 hbAB
  obtain ⟨j, fr, hj, hfl, rfl, rfl, hRR, hs, hnf, hnr, hb⟩ := hrel
  obtain ⟨cf, Af, rfl⟩ : ∃ cf Af, _ := by
   obtain ⟨Af, cf, e⟩ := own_form hRR.f
   exact ⟨cf, Af, e⟩
  obtain ⟨cs, As, rfl⟩ : ∃ cs As, _ := by
   obtain ⟨As, cs, e⟩ := own_form hs
   exact ⟨cs, As, e⟩
  have hsz := hb.size
  have hbxr := HBX.out _ hb
  obtain ⟨q1, q2, c0, c1, c2, c3, c4⟩ := id hbxr
  have HFL := Lib.hid hfl
  by_cases hlt : j < k.procs.length
  ·
   have z1 : (0 : Int) ≤ (j : Int) := by omega
   have z2 : (j : Int) < (k.procs.length : Int) := by omega
   have hfl8 : fr.length ≤ 1000 := by omega
   clear hfl
   go_wp2_with fail
   refine (HFR.out j hlt _ hbxr.1).mono ?_
   rintro e w3 ⟨An, cn, rfl, hon, hb3⟩
   rw [markL_len] at hon ⊢
   have hRR3 := hRR.below hb3
   have hs3 := own_below hs hb3
   have hb03 := below_trans' hb hb3
   have hnew_f : Ne (.slice An k.procs.length cn) (.slice Af fr.length cf) := Ne.fresh hon hRR.f (Nat.le_refl _)
   have hnew_s : Ne (.slice An k.procs.length cn) (.slice As j cs) := Ne.fresh hon hs (Nat.le_refl _)
   have hon3 := own_mono hon hsz
   have hsz3 := hb03.size
   have HON := Lib.hid (show w3.ownsRow w2.heap.size 4 1 (.slice An k.procs.length cn) k.procs.length ((markL k.procs.length ((fun r a => FromP k r a) fr.length)).map bv) from by rw [HFL.out]; exact hon3)
   clear q1 q2 c0 c1 c2 c3 c4 hon hb3 hbxr hRR hs hb
   by_cases hrt : RootP k j
   ·
    have HRTJ := Lib.hid hrt
    clear hrt
    go_wp2_with (at_builtin; refine append_row k.procs.length (An, cn) rfl _ _ rfl hRR3.f rfl rfl (by omega) hsz3 ?_; intro A4 c4 w4 ho4 hg4 hv4; have hRR4 := hRR3.add HON.out hnew_f ho4 hg4 hv4; have hs4 := own_kept hs3 hg4 hnf.symm'; have hb04 := below_append hb03 hRR3.f hg4 hsz3 (Nat.le_refl _); have hsz4 := hb04.size; obtain ⟨adr, ear, _, hcr⟩ := (HRR.out _ hb04).mark (j := j) (by rw [markL_len]; exact hlt); subst ear; obtain ⟨q1, q2, c0, c1, c2, c3, c4'⟩ := id (HBX.out _ hb04); rw [mkd_markL_pos hlt HRTJ.out] at hcr)
    refine (HSG.out j hlt HRTJ.out _ q1).mono ?_
    rintro e w5 ⟨rfl, hb5⟩
    have hRR5 := hRR4.below hb5
    have hs5 := own_below hs4 hb5
    have hb05 := below_trans' hb04 hb5
    have hsz5 := hb05.size
    have hn4 : Ne (.slice A4 (fr.length + 1) c4) (.slice As j cs) := fun x hx hx' => by
     rcases hv4 with e4 | e4
     ·
      exact hnf x (e4.symm.trans hx) hx'
     ·
      rw [e4] at hx
      injection hx with hx
      have := (hs3.lt x hx').2
      omega
    have hnr4 : ∀ p ∈ fr ++ [(An, cn)], Ne (.slice p.1 k.procs.length p.2) (.slice As j cs) := fun p hp => by
     rcases List.mem_append.1 hp with hp | hp
     ·
      exact hnr p hp
     ·
      rw [List.mem_singleton.1 hp]; exact hnew_s
    clear q1 q2 c0 c1 c2 c3 c4' hcr hb5 hRR4 hs4 hb04 hRR3 hs3 hb03
    go_wp2_with (at_builtin; refine append_bool (singB k j) rfl _ _ rfl hs5 rfl rfl (by omega) hsz5 ?_; intro A6 c6 w6 ho6 hg6 hv6; have hb06 := below_append hb05 hs5 hg6 hsz5 (Nat.le_refl _))
    go_roundg (k.procs.length - (j + 1))
    case measure => omega
    case rel =>
     refine ⟨j + 1, fr ++ [(An, cn)], by omega, by rw [List.length_append, HFL.out]; rfl, rfl, by go_num, hRR5.kept hg6 hn4 hnr4, ?_, ?_, ?_, hb06⟩
     ·
      rw [List.range_succ, List.map_append, List.map_cons, List.map_nil]; exact ho6
     ·
      intro x hx hx'
      rcases hv6 with e6 | e6
      ·
       exact hn4 x hx (e6.symm.trans hx')
      ·
       rw [e6] at hx'
       injection hx' with hx'
       have := (hRR5.f.lt x hx).2
       omega
     ·
      intro p hp
      obtain ⟨i, hi, rfl⟩ := List.getElem_of_mem hp
      exact Ne.new (hRR5.r i hi) (hnr4 _ (List.getElem_mem hi)) hv6
   ·
    have HSF := Lib.hid (show singB k j = false from singB_no fun h => hrt h.1)
    have HRTJ := Lib.hid hrt
    clear hrt
    go_wp2_with (at_builtin; first | (refine append_row k.procs.length (An, cn) rfl _ _ rfl hRR3.f rfl rfl (by omega) hsz3 ?_; intro A4 c4 w4 ho4 hg4 hv4; have hRR4 := hRR3.add HON.out hnew_f ho4 hg4 hv4; have hs4 := own_kept hs3 hg4 hnf.symm'; have hb04 := below_append hb03 hRR3.f hg4 hsz3 (Nat.le_refl _); have hsz4 := hb04.size; obtain ⟨adr, ear, _, hcr⟩ := (HRR.out _ hb04).mark (j := j) (by rw [markL_len]; exact hlt); subst ear; obtain ⟨q1, q2, c0, c1, c2, c3, c4'⟩ := id (HBX.out _ hb04); rw [mkd_markL_neg HRTJ.out] at hcr) | (refine append_bool false rfl _ _ rfl hs4 rfl rfl (by omega) hsz4 ?_; intro A6 c6 w6 ho6 hg6 hv6; have hb06 := below_append hb04 hs4 hg6 hsz4 (Nat.le_refl _)))
    have hn4 : Ne (.slice A4 (fr.length + 1) c4) (.slice As j cs) := fun x hx hx' => by
     rcases hv4 with e4 | e4
     ·
      exact hnf x (e4.symm.trans hx) hx'
     ·
      rw [e4] at hx
      injection hx with hx
      have := (hs3.lt x hx').2
      omega
    have hnr4 : ∀ p ∈ fr ++ [(An, cn)], Ne (.slice p.1 k.procs.length p.2) (.slice As j cs) := fun p hp => by
     rcases List.mem_append.1 hp with hp | hp
     ·
      exact hnr p hp
     ·
      rw [List.mem_singleton.1 hp]; exact hnew_s
    have hRR5 := hRR4
    go_roundg (k.procs.length - (j + 1))
    case measure => omega
    case rel =>
     refine ⟨j + 1, fr ++ [(An, cn)], by omega, by rw [List.length_append, HFL.out]; rfl, rfl, by go_num, hRR5.kept hg6 hn4 hnr4, ?_, ?_, ?_, hb06⟩
     ·
      rw [List.range_succ, List.map_append, List.map_cons, List.map_nil, HSF.out]; exact ho6
     ·
      intro x hx hx'
      rcases hv6 with e6 | e6
      ·
       exact hn4 x hx (e6.symm.trans hx')
      ·
       rw [e6] at hx'
       injection hx' with hx'
       have := (hRR5.f.lt x hx).2
       omega
     ·
      intro p hp
      obtain ⟨i, hi, rfl⟩ := List.getElem_of_mem hp
      exact Ne.new (hRR5.r i hi) (hnr4 _ (List.getElem_mem hi)) hv6
  ·
   obtain rfl : j = k.procs.length := by omega
   obtain ⟨adF, rfl⟩ := hRR.some_ rfl (by omega)
   have hfl8 : fr.length ≤ 1000 := by omega
   obtain ⟨adS, eaS, _, _⟩ := (own_rd hs) 0 (bv (singB k 0)) (by simp [h0p])
   subst eaS
   obtain ⟨adR, eaR, _, _⟩ := (HRR.out _ hb).mark (j := 0) (by rw [markL_len]; exact h0p)
   subst eaR
   obtain ⟨w5, rfl⟩ : ∃ w5 : World, w5 = wr := ⟨_, rfl⟩
   have HBX5 := Lib.hid (fun V (hv : Below w5.heap.size w5 V) => HBX.out V (below_trans' hb hv))
   have HRED := Lib.hid (fun r (hr : r < k.procs.length) a (ha : a < k.procs.length) V (hv : Below w5.heap.size w5 V) => (hRR.below hv).read rfl (i := r) (j := a) (by omega) ha)
   have HSN := Lib.hid (show ∀ r, r < k.procs.length → ∀ V, Below w5.heap.size w5 V → V.cell? (adS.add r) = some (.bool (singB k r)) from fun r hr V hv => by
    obtain ⟨ad, e, _, c⟩ := (own_rd (own_below hs hv)) r (bv (singB k r)) (by simp [hr])
    injection e with e
    subst e
    exact c)
   have HRO := Lib.hid (show ∀ r, r < k.procs.length → ∀ V, Below w5.heap.size w5 V → V.cell? (adR.add r) = some (.bool (mkd (markL k.procs.length (RootP k)) r)) from fun r hr V hv => by
    obtain ⟨ad, e, _, c⟩ := (HRR.out V (below_trans' hb hv)).mark (j := r) (by rw [markL_len]; exact hr)
    injection e with e
    subst e
    exact c)
   have hf0 : (w5.alloc (.cells #[] 87)).ownsRow w5.heap.size 87 1 (.slice (some ⟨w5.heap.size, 0, none⟩) 0 0) 0 (rowsV k.procs.length []) := by
    have := World.ownsRow_lit (base := w5.heap.size) (e := 87) (size := 1) w5 #[] 0 (Nat.le_refl _) (by simp) rfl
    simpa [rowsV] using this
   have hbA := below_alloc0 w5 (.cells #[] 87)
   have hR0 : RR (w5.alloc (.cells #[] 87)) w5.heap.size k.procs.length (TabP k) (.slice (some ⟨w5.heap.size, 0, none⟩) 0 0) [] :=
    ⟨hf0, fun i hi => by simp at hi, fun p hp => by simp at hp⟩
   have hw5 : w.heap.size ≤ w5.heap.size := Nat.le_trans (Nat.le_of_lt hw2) hb.size
   have HBW := Lib.hid (fun V (hv : Below w5.heap.size w5 V) => (HBX5.out V hv).1)
   clear hRR hs hnf hnr hf0 hbxr HRR
   obtain ⟨p1, p2, d0, d1, d2, d3, d4⟩ := HBX5.out _ hbA
   have HFN := Lib.hid hfl
   clear hfl HFL
   go_wp2_with fail
   clear q1 q2 c0 c1 c2 c3 c4 p1 p2 d0 d1 d2 d3 d4
   go_loopg [7, 8] k.procs.length (fun l vo i wr => ∃ (a : Nat) (tr : List (Option Addr × Nat)), a ≤ k.procs.length ∧ tr.length = a ∧ l = k.procs.length - a ∧ i = .int .i64 a ∧ RR wr w5.heap.size k.procs.length (TabP k) vo tr ∧ Below w5.heap.size w5 wr)
   case atStart => exact ⟨0, [], by omega, rfl, by omega, rfl, hR0, hbA⟩
   case round =>
    clear hR0 hbA
    obtain ⟨a, tr, ha, htl, rfl, rfl, hRT, hbr⟩ := hrel
    obtain ⟨ct, At, rfl⟩ : ∃ ct At, _ := by
     obtain ⟨At, ct, e⟩ := own_form hRT.f
     exact ⟨ct, At, e⟩
    have HTLN := Lib.hid htl
    have htl8 : tr.length ≤ 1000 := by omega
    have hsz := hbr.size
    obtain ⟨q1, q2, c0, c1, c2, c3, c4⟩ := HBX5.out _ hbr
    by_cases hla : a < k.procs.length
    ·
     clear htl
     have x1 : (0 : Int) ≤ (a : Int) := by omega
     have x2 : (a : Int) < (k.procs.length : Int) := by omega
     go_wp2_with (at_make; refine make_bools _ rfl _ _ rfl k.procs.length rfl rfl (by omega) ?_; intro w6 hown hb6; obtain ⟨q1', q2', d0, d1, d2, d3, d4⟩ := HBX5.out _ (below_trans' hbr hb6))
     have hb06 := below_trans' hbr hb6
     have hRT6 := hRT.below hb6
     have hgx6 := (own_lt hown).2
     have hne1 : (Value.slice At tr.length ct).ownBlock ≠ some wr.heap.size := fun e => by have := (hRT.f.lt _ e).2; omega
     have hne2 : ∀ p ∈ tr, (Value.slice p.1 k.procs.length p.2).ownBlock ≠ some wr.heap.size := fun p hp e => by
      obtain ⟨i, hi, rfl⟩ := List.getElem_of_mem hp
      have := (hRT.r i hi).lt _ e
      omega
     have hI0 := RowI.start k a
     clear q1 q2 c0 c1 c2 c3 c4 q1' q2' d0 d1 d2 d3 d4 hb6 hRT hbr
     generalize wr.heap.size = gx at *
     have HB := Lib.hid (fun V (h : Tch gx gx gx w6 V) => hb06.trans (h.below hb06.size hsz hsz hsz))
     have HRT6 := Lib.hid (fun V (h : Tch gx gx gx w6 V) => hRT6.tch h hne1 hne2)
     go_loopg [10] k.procs.length (fun l i wr => ∃ (b : Nat) (ms : List Bool), b ≤ k.procs.length ∧ l = k.procs.length - b ∧ i = .int .i64 b ∧ RowI k a b 0 0 ms ∧ wr.ownsRow gx 4 1 (.slice (some ⟨gx, 0, none⟩) k.procs.length k.procs.length) k.procs.length (ms.map bv) ∧ Tch gx gx gx w6 wr)
     case atStart => exact ⟨0, _, by omega, by omega, rfl, hI0, hown, Tch.refl _ _ _ _⟩
     case round =>
      clear hI0 hown
      obtain ⟨b, ms, hb0, rfl, rfl, hI, ho, hT⟩ := hrel
      have HI := Lib.hid hI
      clear hI
      obtain ⟨q1, q2, c0, c1, c2, c3, c4⟩ := HBX5.out _ (HB.out _ hT)
      by_cases hlb : b < k.procs.length
      ·
       have y1 : (0 : Int) ≤ (b : Int) := by omega
       have y2 : (b : Int) < (k.procs.length : Int) := by omega
       go_wp2_with fail
       clear q1 q2 c0 c1 c2 c3 c4
       go_loopg [11] k.procs.length (fun l i wr => ∃ (r : Nat) (ms : List Bool), r ≤ k.procs.length ∧ l = k.procs.length - r ∧ i = .int .i64 r ∧ RowI k a b r 0 ms ∧ wr.ownsRow gx 4 1 (.slice (some ⟨gx, 0, none⟩) k.procs.length k.procs.length) k.procs.length (ms.map bv) ∧ Tch gx gx gx w6 wr)
       case atStart => exact ⟨0, ms, by omega, by omega, rfl, HI.out, ho, hT⟩
       case round =>
        clear ho hT HI
        obtain ⟨r, ms, hr0, rfl, rfl, hI, ho, hT⟩ := hrel
        have HI := Lib.hid hI
        clear hI
        obtain ⟨q1, q2, c0, c1, c2, c3, c4⟩ := HBX5.out _ (HB.out _ hT)
        by_cases hlr : r < k.procs.length
        ·
         have u1 : (0 : Int) ≤ (r : Int) := by omega
         have u2 : (r : Int) < (k.procs.length : Int) := by omega
         go_wp2_with fail
         clear q1 q2 c0 c1 c2 c3 c4
         go_loopg [12] k.procs.length (fun l i wr => ∃ (s : Nat) (ms : List Bool), s ≤ k.procs.length ∧ l = k.procs.length - s ∧ i = .int .i64 s ∧ RowI k a b r s ms ∧ wr.ownsRow gx 4 1 (.slice (some ⟨gx, 0, none⟩) k.procs.length k.procs.length) k.procs.length (ms.map bv) ∧ Tch gx gx gx w6 wr)
         case atStart => exact ⟨0, ms, by omega, by omega, rfl, HI.out, ho, hT⟩
         case round =>
          clear ho hT HI
          obtain ⟨s, ms, hs0, rfl, rfl, hI, ho, hT⟩ := hrel
          have HI := Lib.hid hI
          clear hI
          have hbV := HB.out _ hT
          obtain ⟨q1, q2, c0, c1, c2, c3, c4⟩ := HBX5.out _ (HB.out _ hT)
          by_cases hls : s < k.procs.length
          ·
           have v1 : (0 : Int) ≤ (s : Int) := by omega
           have v2 : (s : Int) < (k.procs.length : Int) := by omega
           have u3 : (r : Int) < (fr.length : Int) := by have := HFN.out; omega
           have v3 : (s : Int) < (fr.length : Int) := by have := HFN.out; omega
           have cR1 := HRO.out r hlr _ hbV
           have cR2 := HRO.out s hls _ hbV
           have cS := HSN.out r hlr _ hbV
           obtain ⟨ad1, k1, cf1, ca⟩ := HRED.out r hlr a hla _ hbV
           obtain ⟨ad2, k2, cf2, cb⟩ := HRED.out s hls b hlb _ hbV
           clear hbV
           by_cases g1 : RootP k r
           ·
            rw [mkd_markL_pos hlr g1] at cR1
            have G1 := Lib.hid g1
            clear g1
            by_cases g2 : RootP k s
            ·
             rw [mkd_markL_pos hls g2] at cR2
             have G2 := Lib.hid g2
             clear g2
             by_cases g3 : FromP k r a
             ·
              rw [mkd_markL_pos hla g3] at ca
              have G3 := Lib.hid g3
              clear g3
              by_cases g4 : FromP k s b
              ·
               rw [mkd_markL_pos hlb g4] at cb
               have G4 := Lib.hid g4
               clear g4
               by_cases g5 : r = s
               ·
                have hne : ((r : Int) != (s : Int)) = false := by rw [g5]; simp
                have G5 := Lib.hid g5
                clear g5
                by_cases g6 : SingR k r
                ·
                 rw [show singB k r = true from singB_yes g6] at cS
                 have G6 := Lib.hid g6
                 clear g6
                 have HI2 := Lib.hid (HI.out.skip (fun h => h.2.2.2.2.elim (fun e => e G5.out) (fun e => e G6.out)))
                 go_wp2_with fail
                 go_roundg (k.procs.length - (s + 1))
                 case measure => omega
                 case rel => exact ⟨s + 1, ms, by omega, rfl, by go_num, HI2.out, ho, hT⟩
                ·
                 rw [show singB k r = false from singB_no g6] at cS
                 have G6 := Lib.hid g6
                 clear g6
                 have HI2 := Lib.hid (HI.out.hit hlb (⟨G1.out, G2.out, G3.out, G4.out, .inr G6.out⟩))
                 obtain ⟨u, hu⟩ := own_has ho (j := b) (by omega)
                 have fz := ho.frozenAt b
                 go_wp2_with fail
                 obtain ⟨s1, _⟩ := ho.stored b (bv true)
                 rw [bv_set] at s1
                 go_roundg (k.procs.length - (s + 1))
                 case measure => omega
                 case rel => exact ⟨s + 1, ms.set b true, by omega, rfl, by go_num, HI2.out, s1, hT.set (.inl rfl) _⟩
               ·
                have hne : ((r : Int) != (s : Int)) = true := by simp only [bne_iff_ne, ne_eq]; omega
                have G5 := Lib.hid g5
                clear g5
                have HI2 := Lib.hid (HI.out.hit hlb (⟨G1.out, G2.out, G3.out, G4.out, .inl G5.out⟩))
                obtain ⟨u, hu⟩ := own_has ho (j := b) (by omega)
                have fz := ho.frozenAt b
                go_wp2_with fail
                obtain ⟨s1, _⟩ := ho.stored b (bv true)
                rw [bv_set] at s1
                go_roundg (k.procs.length - (s + 1))
                case measure => omega
                case rel => exact ⟨s + 1, ms.set b true, by omega, rfl, by go_num, HI2.out, s1, hT.set (.inl rfl) _⟩
              ·
               rw [mkd_markL_neg g4] at cb
               have G4 := Lib.hid g4
               clear g4
               have HI2 := Lib.hid (HI.out.skip (fun h => G4.out h.2.2.2.1))
               go_wp2_with fail
               go_roundg (k.procs.length - (s + 1))
               case measure => omega
               case rel => exact ⟨s + 1, ms, by omega, rfl, by go_num, HI2.out, ho, hT⟩
             ·
              rw [mkd_markL_neg g3] at ca
              have G3 := Lib.hid g3
              clear g3
              have HI2 := Lib.hid (HI.out.skip (fun h => G3.out h.2.2.1))
              go_wp2_with fail
              go_roundg (k.procs.length - (s + 1))
              case measure => omega
              case rel => exact ⟨s + 1, ms, by omega, rfl, by go_num, HI2.out, ho, hT⟩
            ·
             rw [mkd_markL_neg g2] at cR2
             have G2 := Lib.hid g2
             clear g2
             have HI2 := Lib.hid (HI.out.skip (fun h => G2.out h.2.1))
             go_wp2_with fail
             go_roundg (k.procs.length - (s + 1))
             case measure => omega
             case rel => exact ⟨s + 1, ms, by omega, rfl, by go_num, HI2.out, ho, hT⟩
           ·
            rw [mkd_markL_neg g1] at cR1
            have G1 := Lib.hid g1
            clear g1
            have HI2 := Lib.hid (HI.out.skip (fun h => G1.out h.1))
            go_wp2_with fail
            go_roundg (k.procs.length - (s + 1))
            case measure => omega
            case rel => exact ⟨s + 1, ms, by omega, rfl, by go_num, HI2.out, ho, hT⟩
          ·
           obtain rfl : s = k.procs.length := by omega
           have HI2 := Lib.hid (HI.out.nextr HR.out rfl)
           go_wp2_with fail
           go_roundg (k.procs.length - (r + 1))
           case measure => omega
           case rel => exact ⟨r + 1, ms, by omega, rfl, by go_num, HI2.out, ho, hT⟩
        ·
         obtain rfl : r = k.procs.length := by omega
         have HI2 := Lib.hid (HI.out.nextb HR.out rfl)
         go_wp2_with fail
         go_roundg (k.procs.length - (b + 1))
         case measure => omega
         case rel => exact ⟨b + 1, ms, by omega, rfl, by go_num, HI2.out, ho, hT⟩
      ·
       obtain rfl : b = k.procs.length := by omega
       have hms := HI.out.full rfl
       subst hms
       have hRT7 := HRT6.out _ hT
       have hb7 := HB.out _ hT
       have hsz7 := hb7.size
       have hon : wr.ownsRow w5.heap.size 4 1 (.slice (some ⟨gx, 0, none⟩) k.procs.length k.procs.length) k.procs.length ((markL k.procs.length (TabP k tr.length)).map bv) := by rw [HTLN.out]; exact own_mono ho hsz
       have HON := Lib.hid hon
       have hnew : Ne (.slice (some ⟨gx, 0, none⟩) k.procs.length k.procs.length) (.slice At tr.length ct) := fun x hx hx' => hne1 (by rw [hx']; exact hx.symm)
       clear hon ho HI
       go_wp2_with (at_builtin; refine append_row k.procs.length (some ⟨gx, 0, none⟩, k.procs.length) rfl _ _ rfl hRT7.f rfl rfl (by omega) hsz7 ?_; intro A8 c8 w8 ho8 hg8 hv8; have hRT8 := hRT7.add HON.out hnew ho8 hg8 hv8; have hb8 := below_append hb7 hRT7.f hg8 hsz7 (Nat.le_refl _))
       go_roundg (k.procs.length - (a + 1))
       case measure => omega
       case rel => exact ⟨a + 1, tr ++ [(some ⟨gx, 0, none⟩, k.procs.length)], by omega, by rw [List.length_append, HTLN.out]; rfl, rfl, by go_num, hRT8, hb8⟩
    ·
     have htn : tr.length = k.procs.length := by omega
     have HFI := Lib.hid (show NewTab w k.procs.length (TabP k) (.returned (.slice At tr.length ct)) wr from by
      have h := hRT
      rw [htn] at h ⊢
      exact ⟨At, ct, tr, rfl, htn, ⟨own_mono h.f hw5, fun i hi => own_mono (h.r i hi) hw5, h.ne⟩, HBW.out _ hbr⟩)
     clear htl htn
     go_wp2_with fail
     go_ret
     exact HFI.out
end Go.Proofs.YtkgoajnnkimkaaaGreat
namespace Go.Proofs.YtkgoajnnkimkaaaGreat
open Go.ChangeShapes Go.WideShapes Go.ChangeAt Go.RowKit
theorem beside_tab {k : Cd} {a b : Nat} (ha : LiveA k a) (hb : LiveA k b) : BesideP k a b ↔ TabP k (procN k a) (procN k b) :=
 ⟨fun ⟨r, s, h1, h2, h3⟩ => ⟨r, s, h1.2.1, h2.2.1, h1.2.2, h2.2.2, h3⟩, fun ⟨r, s, h1, h2, h3, h4, h5⟩ => ⟨r, s, ⟨ha, h1, h3⟩, ⟨hb, h2, h4⟩, h5⟩⟩
open Classical in
theorem besB_no {k : Cd} {a b : Nat} (h : ¬ BesideP k a b) : besideB k a b = false := by unfold besideB; exact decide_eq_false h
open Classical in
theorem besB_yes {k : Cd} {a b : Nat} (h : BesideP k a b) : besideB k a b = true := by unfold besideB; exact decide_eq_true h
theorem at_none {k : Cd} (hr : Right k) {a : Nat} (h : (listN k.procs.length (AtP k a)).length = 0) (r : Nat) : ¬ AtP k a r := fun hA => by
 have h1 : r ∈ listN k.procs.length (AtP k a) := mem_listN.2 ⟨at_lt hr hA, hA⟩
 rw [List.eq_nil_of_length_eq_zero h] at h1
 simp at h1
theorem at_live {k : Cd} {a : Nat} (h : (listN k.procs.length (AtP k a)).length ≠ 0) : LiveA k a := by
 cases hl : listN k.procs.length (AtP k a) with
 | nil => rw [hl] at h; simp at h
 | cons r l =>
  have h1 : r ∈ listN k.procs.length (AtP k a) := by rw [hl]; simp
  exact (mem_listN.1 h1).2.1
theorem beside_s {B L : Nat} (v : CV) (k : Cd) (x y : Int) (w : World) (hk : CodeAt w B v k) (hcb : CdB L k) (hL : L ≤ 1048576) :
  Calls Tryz.prog 36 #[.agg #[.slice v.gA k.globals.length v.gc, .slice v.lA k.locks.length v.lc, .slice v.pA k.procs.length v.pc, .slice v.eA k.entry.length v.ec, .slice v.iA k.ins.length v.ic], .int .i64 x, .int .i64 y] w (fun e w' => e = .returned (.bool (besideA k x y)) ∧ Below w.heap.size w w') := by
 have hkf := hk.full
 have hbx := codeBox w v k
 have hpl0 := hcb.procs
 have hil0 := hcb.ins
 have HGX := Lib.hid (fun W (h : CodeAt W w.heap.size v k) => l09At_any v k x W h hcb (by omega))
 have HGY := Lib.hid (fun W (h : CodeAt W w.heap.size v k) => l09At_any v k y W h hcb (by omega))
 cases hx : (codeOkI k && (decide (0 ≤ x) && decide (x < k.ins.length)))
 ·
  have HZ := Lib.hid (show besideA k x y = false from by unfold besideA; rw [hx]; simp)
  rw [hx] at HGX
  clear hx hk hcb
  go_enter Tryz.func36, Tryz.ntmps36
  go_wp2_with fail
  generalize w.alloc (.cells #[.slice v.gA k.globals.length v.gc, .slice v.lA k.locks.length v.lc, .slice v.pA k.procs.length v.pc, .slice v.eA k.entry.length v.ec, .slice v.iA k.ins.length v.ic] 28) = W at hbx ⊢
  refine (HGX.out _ (hkf.below hbx.1)).mono ?_
  rintro e w1 ⟨rfl, hb1⟩
  go_wp2_with fail
  go_ret
  exact ⟨ret_bool HZ.out.symm, below_trans' hbx.1 hb1⟩
 ·
  rw [hx] at HGX
  cases hy : (codeOkI k && (decide (0 ≤ y) && decide (y < k.ins.length)))
  ·
   have HZ := Lib.hid (show besideA k x y = false from by
    have h1 : codeOkI k = true := (Bool.and_eq_true_iff.1 hx).1
    rw [h1, Bool.true_and] at hy
    unfold besideA; rw [hy]; simp)
   rw [hy] at HGY
   clear hx hy hk hcb
   go_enter Tryz.func36, Tryz.ntmps36
   go_wp2_with fail
   generalize w.alloc (.cells #[.slice v.gA k.globals.length v.gc, .slice v.lA k.locks.length v.lc, .slice v.pA k.procs.length v.pc, .slice v.eA k.entry.length v.ec, .slice v.iA k.ins.length v.ic] 28) = W at hbx ⊢
   refine (HGX.out _ (hkf.below hbx.1)).mono ?_
   rintro e w1 ⟨rfl, hb1⟩
   have hbx1 := hbx.to hb1
   obtain ⟨q1, q2, c0, c1, c2, c3, c4⟩ := id hbx1
   go_wp2_with fail
   refine (HGY.out _ (hkf.below hbx1.1)).mono ?_
   rintro e w2 ⟨rfl, hb2⟩
   have hbx2 := hbx1.to hb2
   clear q1 q2 c0 c1 c2 c3 c4
   obtain ⟨q1, q2, c0, c1, c2, c3, c4⟩ := id hbx2
   go_wp2_with fail
   go_ret
   exact ⟨ret_bool HZ.out.symm, hbx2.1⟩
  ·
   rw [hy] at HGY
   obtain ⟨hok, a, rfl, hal⟩ : codeOkI k = true ∧ ∃ a : Nat, x = a ∧ a < k.ins.length := by
    simp only [Bool.and_eq_true, decide_eq_true_eq] at hx
    exact ⟨hx.1, x.toNat, by omega, by omega⟩
   obtain ⟨b, rfl, hbl⟩ : ∃ b : Nat, y = b ∧ b < k.ins.length := by
    simp only [Bool.and_eq_true, decide_eq_true_eq] at hy
    exact ⟨y.toNat, by omega, by omega⟩
   have hr := right_of hok
   have HBA := Lib.hid (show besideA k a b = besideB k a b from by
    unfold besideA
    rw [if_pos (by simp [hok]; exact ⟨hal, hbl⟩), Int.toNat_natCast, Int.toNat_natCast])
   have HRA := Lib.hid (fun a W (h : CodeAt W w.heap.size v k) (ha : a < k.ins.length) => l14RootsAt_any v k a W hr h ha)
   have HRA := Lib.hid (show ∀ (a : {a : Nat // a < k.ins.length}) W (h : CodeAt W w.heap.size v k), Calls Tryz.prog 113 #[.agg #[.slice v.gA k.globals.length v.gc, .slice v.lA k.locks.length v.lc, .slice v.pA k.procs.length v.pc, .slice v.eA k.entry.length v.ec, .slice v.iA k.ins.length v.ic], .int .i64 a.1] W (NewNats W (listN k.procs.length (AtP k a.1))) from fun a W h => HRA.out a.1 W h a.2)
   have hpa := (hr.proc a hal).1
   have hpb := (hr.proc b hbl).1
   have hpl := hr.procs
   have hna := listN_len k.procs.length (AtP k a)
   have hnb := listN_len k.procs.length (AtP k b)
   have HTB := Lib.hid (fun W (hb : Below w.heap.size w W) => l14Table_any v k W hr (hkf.below hb) hcb hL)
   have HPR := Lib.hid (fun a (ha : a < k.ins.length) W (hb : Below w.heap.size w W) => l08Proc_right v k a W hr (hkf.below hb) ha)
   have HR := Lib.hid hr
   clear hx hy hk hcb hok hr
   by_cases hla : (listN k.procs.length (AtP k a)).length = 0
   ·
    have HZ := Lib.hid (show besideA k a b = false from by
     rw [HBA.out]
     exact besB_no fun ⟨r, s, h1, _⟩ => at_none HR.out hla r h1)
    have e0 : (((listN k.procs.length (AtP k a)).length : Int) == 0) = true := by rw [hla]; rfl
    clear hla
    generalize hLA : (listN k.procs.length (AtP k a)).length = la at *
    have HLA := Lib.hid hLA
    clear hLA
    go_enter Tryz.func36, Tryz.ntmps36
    go_wp2_with fail
    generalize w.alloc (.cells #[.slice v.gA k.globals.length v.gc, .slice v.lA k.locks.length v.lc, .slice v.pA k.procs.length v.pc, .slice v.eA k.entry.length v.ec, .slice v.iA k.ins.length v.ic] 28) = W at hbx ⊢
    refine (HGX.out _ (hkf.below hbx.1)).mono ?_
    rintro e w1 ⟨rfl, hb1⟩
    have hbx1 := hbx.to hb1
    obtain ⟨q1, q2, c0, c1, c2, c3, c4⟩ := id hbx1
    go_wp2_with fail
    refine (HGY.out _ (hkf.below hbx1.1)).mono ?_
    rintro e w2 ⟨rfl, hb2⟩
    have hbx2 := hbx1.to hb2
    clear q1 q2 c0 c1 c2 c3 c4
    obtain ⟨q1, q2, c0, c1, c2, c3, c4⟩ := id hbx2
    go_wp2_with fail
    refine (HRA.out ⟨a, hal⟩ _ (hkf.below hbx2.1)).mono ?_
    rintro e w3 ⟨A3, cc3, rfl, ho3, hb3⟩
    rw [HLA.out]
    have hbx3 := hbx2.to hb3
    clear q1 q2 c0 c1 c2 c3 c4 ho3
    obtain ⟨q1, q2, c0, c1, c2, c3, c4⟩ := id hbx3
    go_wp2_with fail
    go_ret
    exact ⟨ret_bool HZ.out.symm, hbx3.1⟩
   ·
    have e0 : (((listN k.procs.length (AtP k a)).length : Int) == 0) = false := by rw [beq_eq_false_iff_ne]; omega
    have HLVA := Lib.hid (at_live hla)
    clear hla
    generalize hLA : (listN k.procs.length (AtP k a)).length = la at *
    have HLA := Lib.hid hLA
    clear hLA
    by_cases hlb : (listN k.procs.length (AtP k b)).length = 0
    ·
     have HZ := Lib.hid (show besideA k a b = false from by
      rw [HBA.out]
      exact besB_no fun ⟨r, s, _, h1, _⟩ => at_none HR.out hlb s h1)
     have e1 : (((listN k.procs.length (AtP k b)).length : Int) == 0) = true := by rw [hlb]; rfl
     clear hlb
     generalize hLB : (listN k.procs.length (AtP k b)).length = lb at *
     have HLB := Lib.hid hLB
     clear hLB
     go_enter Tryz.func36, Tryz.ntmps36
     go_wp2_with fail
     generalize w.alloc (.cells #[.slice v.gA k.globals.length v.gc, .slice v.lA k.locks.length v.lc, .slice v.pA k.procs.length v.pc, .slice v.eA k.entry.length v.ec, .slice v.iA k.ins.length v.ic] 28) = W at hbx ⊢
     refine (HGX.out _ (hkf.below hbx.1)).mono ?_
     rintro e w1 ⟨rfl, hb1⟩
     have hbx1 := hbx.to hb1
     obtain ⟨q1, q2, c0, c1, c2, c3, c4⟩ := id hbx1
     go_wp2_with fail
     refine (HGY.out _ (hkf.below hbx1.1)).mono ?_
     rintro e w2 ⟨rfl, hb2⟩
     have hbx2 := hbx1.to hb2
     clear q1 q2 c0 c1 c2 c3 c4
     obtain ⟨q1, q2, c0, c1, c2, c3, c4⟩ := id hbx2
     go_wp2_with fail
     refine (HRA.out ⟨a, hal⟩ _ (hkf.below hbx2.1)).mono ?_
     rintro e w3 ⟨A3, cc3, rfl, ho3, hb3⟩
     rw [HLA.out]
     have hbx3 := hbx2.to hb3
     clear q1 q2 c0 c1 c2 c3 c4 ho3
     obtain ⟨q1, q2, c0, c1, c2, c3, c4⟩ := id hbx3
     go_wp2_with fail
     refine (HRA.out ⟨b, hbl⟩ _ (hkf.below hbx3.1)).mono ?_
     rintro e w4 ⟨A4, cc4, rfl, ho4, hb4⟩
     rw [HLB.out]
     have hbx4 := hbx3.to hb4
     clear q1 q2 c0 c1 c2 c3 c4 ho4
     obtain ⟨q1, q2, c0, c1, c2, c3, c4⟩ := id hbx4
     go_wp2_with fail
     go_ret
     exact ⟨ret_bool HZ.out.symm, hbx4.1⟩
    ·
     have e1 : (((listN k.procs.length (AtP k b)).length : Int) == 0) = false := by rw [beq_eq_false_iff_ne]; omega
     have HLVB := Lib.hid (at_live hlb)
     clear hlb
     generalize hLB : (listN k.procs.length (AtP k b)).length = lb at *
     have HLB := Lib.hid hLB
     clear hLB
     have y1 : (0 : Int) ≤ (procN k a : Int) := by omega
     have y2 : (procN k a : Int) < (k.procs.length : Int) := by omega
     have y3 : (0 : Int) ≤ (procN k b : Int) := by omega
     have y4 : (procN k b : Int) < (k.procs.length : Int) := by omega
     obtain ⟨res, hres⟩ : ∃ res, res = besideA k a b := ⟨_, rfl⟩
     have HF := Lib.hid (show besideA k a b = res from hres.symm)
     have hmk : mkd (markL k.procs.length (TabP k (procN k a))) (procN k b) = res := by
      rw [hres, HBA.out]
      by_cases ht : TabP k (procN k a) (procN k b)
      ·
       rw [mkd_markL_pos hpb ht, besB_yes ((beside_tab HLVA.out HLVB.out).2 ht)]
      ·
       rw [mkd_markL_neg ht, besB_no fun h => ht ((beside_tab HLVA.out HLVB.out).1 h)]
     have HMK := Lib.hid hmk
     clear hmk hres
     go_enter Tryz.func36, Tryz.ntmps36
     go_wp2_with fail
     generalize w.alloc (.cells #[.slice v.gA k.globals.length v.gc, .slice v.lA k.locks.length v.lc, .slice v.pA k.procs.length v.pc, .slice v.eA k.entry.length v.ec, .slice v.iA k.ins.length v.ic] 28) = W at hbx ⊢
     refine (HGX.out _ (hkf.below hbx.1)).mono ?_
     rintro e w1 ⟨rfl, hb1⟩
     have hbx1 := hbx.to hb1
     obtain ⟨q1, q2, c0, c1, c2, c3, c4⟩ := id hbx1
     go_wp2_with fail
     refine (HGY.out _ (hkf.below hbx1.1)).mono ?_
     rintro e w2 ⟨rfl, hb2⟩
     have hbx2 := hbx1.to hb2
     clear q1 q2 c0 c1 c2 c3 c4
     obtain ⟨q1, q2, c0, c1, c2, c3, c4⟩ := id hbx2
     go_wp2_with fail
     refine (HRA.out ⟨a, hal⟩ _ (hkf.below hbx2.1)).mono ?_
     rintro e w3 ⟨A3, cc3, rfl, ho3, hb3⟩
     rw [HLA.out]
     have hbx3 := hbx2.to hb3
     clear q1 q2 c0 c1 c2 c3 c4 ho3
     obtain ⟨q1, q2, c0, c1, c2, c3, c4⟩ := id hbx3
     go_wp2_with fail
     refine (HRA.out ⟨b, hbl⟩ _ (hkf.below hbx3.1)).mono ?_
     rintro e w4 ⟨A4, cc4, rfl, ho4, hb4⟩
     rw [HLB.out]
     have hbx4 := hbx3.to hb4
     clear q1 q2 c0 c1 c2 c3 c4 ho4
     obtain ⟨q1, q2, c0, c1, c2, c3, c4⟩ := id hbx4
     go_wp2_with fail
     obtain ⟨w5, rfl⟩ : ∃ w5 : World, w5 = w4 := ⟨_, rfl⟩
     have hb05 := hbx4.1
     refine wp_region_held_drew (S := fun w' => Below w5.heap.size w5 w') (by kernel_rfl) ((Below.refl _ _).drew) (fun hHeld => ?_)
     first | (refine hand_skip (i := 0) rfl (by kernel_rfl) (by kernel_rfl) (by kernel_rfl) (fun _ _ _ h => h) (by rfl) (by assumption) ?_) | (refine hand_run (i := 0) (v := ?_) rfl (by kernel_rfl) (by kernel_rfl) (by kernel_rfl) (fun _ _ _ h => h) (by rfl) ?_ (by assumption) ?_; rotate_left; (intro W hW; have f0 := cell_below hW c0; have f1 := cell_below hW c1; have f2 := cell_below hW c2; have f3 := cell_below hW c3; have f4 := cell_below hW c4; first | (go_simp; done) | (go_simp; with_reducible rfl)))
     (try simp only [Act.put, List.setIfInBounds_toArray, List.set_cons_zero, List.set_cons_succ])
     first | (refine hand_skip (i := 2) rfl (by kernel_rfl) (by kernel_rfl) (by kernel_rfl) (fun _ _ _ h => h) (by rfl) (by assumption) ?_) | (refine hand_run (i := 2) (v := ?_) rfl (by kernel_rfl) (by kernel_rfl) (by kernel_rfl) (fun _ _ _ h => h) (by rfl) ?_ (by assumption) ?_; rotate_left; (intro W hW; have f0 := cell_below hW c0; have f1 := cell_below hW c1; have f2 := cell_below hW c2; have f3 := cell_below hW c3; have f4 := cell_below hW c4; first | (go_simp; done) | (go_simp; with_reducible rfl)))
     (try simp only [Act.put, List.setIfInBounds_toArray, List.set_cons_zero, List.set_cons_succ])
     first | (refine hand_skip (i := 3) rfl (by kernel_rfl) (by kernel_rfl) (by kernel_rfl) (fun _ _ _ h => h) (by rfl) (by assumption) ?_) | (refine hand_run (i := 3) (v := ?_) rfl (by kernel_rfl) (by kernel_rfl) (by kernel_rfl) (fun _ _ _ h => h) (by rfl) ?_ (by assumption) ?_; rotate_left; (intro W hW; have f0 := cell_below hW c0; have f1 := cell_below hW c1; have f2 := cell_below hW c2; have f3 := cell_below hW c3; have f4 := cell_below hW c4; first | (go_simp; done) | (go_simp; with_reducible rfl)))
     (try simp only [Act.put, List.setIfInBounds_toArray, List.set_cons_zero, List.set_cons_succ])
     first | (refine hand_skip (i := 7) rfl (by kernel_rfl) (by kernel_rfl) (by kernel_rfl) (fun _ _ _ h => h) (by rfl) (by assumption) ?_) | (refine hand_run (i := 7) (v := ?_) rfl (by kernel_rfl) (by kernel_rfl) (by kernel_rfl) (fun _ _ _ h => h) (by rfl) ?_ (by assumption) ?_; rotate_left; (intro W hW; have f0 := cell_below hW c0; have f1 := cell_below hW c1; have f2 := cell_below hW c2; have f3 := cell_below hW c3; have f4 := cell_below hW c4; first | (go_simp; done) | (go_simp; with_reducible rfl)))
     (try simp only [Act.put, List.setIfInBounds_toArray, List.set_cons_zero, List.set_cons_succ])
     first | (refine hand_skip (i := 8) rfl (by kernel_rfl) (by kernel_rfl) (by kernel_rfl) (fun _ _ _ h => h) (by rfl) (by assumption) ?_) | (refine hand_run (i := 8) (v := ?_) rfl (by kernel_rfl) (by kernel_rfl) (by kernel_rfl) (fun _ _ _ h => h) (by rfl) ?_ (by assumption) ?_; rotate_left; (intro W hW; have f0 := cell_below hW c0; have f1 := cell_below hW c1; have f2 := cell_below hW c2; have f3 := cell_below hW c3; have f4 := cell_below hW c4; first | (go_simp; done) | (go_simp; with_reducible rfl)))
     (try simp only [Act.put, List.setIfInBounds_toArray, List.set_cons_zero, List.set_cons_succ])
     refine hand_one (i := 1) rfl (by kernel_rfl) (fun K hK => ?_)
     refine q_yes (by rfl) ?_
     go_simp
     refine (HTB.out _ (below_trans' hb05 hHeld)).mono ?_
     rintro e wt ⟨At, ct, fr, rfl, hfl, hRR, hbt⟩
     obtain ⟨adT, rfl⟩ := hRR.some_ hfl.symm (by omega)
     obtain ⟨ad1, c1', hcr, hcm⟩ := hRR.read hfl.symm (i := procN k a) (j := procN k b) (by omega) hpb
     rw [HMK.out] at hcm
     clear hfl hRR
     refine hK.out _ _ (below_trans' hHeld hbt) (fun hHeld => ?_)
     clear hK K
     (try simp only [Act.put, List.setIfInBounds_toArray, List.set_cons_zero, List.set_cons_succ])
     refine hand_one (i := 4) rfl (by kernel_rfl) (fun K hK => ?_)
     refine q_yes (by rfl) ?_
     go_simp
     refine (HPR.out a hal _ (below_trans' hb05 hHeld)).mono ?_
     rintro e wp ⟨rfl, hbp⟩
     try have hcr := cell_below hbp hcr
     try have hcm := cell_below hbp hcm
     refine hK.out _ _ (below_trans' hHeld hbp) (fun hHeld => ?_)
     clear hK K
     (try simp only [Act.put, List.setIfInBounds_toArray, List.set_cons_zero, List.set_cons_succ])
     first | (refine hand_skip (i := 5) rfl (by kernel_rfl) (by kernel_rfl) (by kernel_rfl) (fun _ _ _ h => h) (by rfl) (by assumption) ?_) | (refine hand_run (i := 5) (v := ?_) rfl (by kernel_rfl) (by kernel_rfl) (by kernel_rfl) (fun _ _ _ h => h) (by rfl) ?_ (by assumption) ?_; rotate_left; (intro W hW; have f0 := cell_below hW c0; have f1 := cell_below hW c1; have f2 := cell_below hW c2; have f3 := cell_below hW c3; have f4 := cell_below hW c4; first | (go_simp; done) | (go_simp; with_reducible rfl)))
     (try simp only [Act.put, List.setIfInBounds_toArray, List.set_cons_zero, List.set_cons_succ])
     refine hand_two (i := 6) (j := 9) rfl rfl (by kernel_rfl) (fun K hK => ?_) (fun K hK => ?_) 
     ·
      refine q_yes (by rfl) ?_
      go_simp
      skip
      refine hK.out _ _ (hHeld) (fun hHeld => ?_)
      clear hK K
      (try simp only [Act.put, List.setIfInBounds_toArray, List.set_cons_zero, List.set_cons_succ])
      refine hand_one (i := 9) rfl (by kernel_rfl) (fun K hK => ?_)
      refine q_yes (by rfl) ?_
      go_simp
      refine (HPR.out b hbl _ (below_trans' hb05 hHeld)).mono ?_
      rintro e wq ⟨rfl, hbq⟩
      try have hcr := cell_below hbq hcr
      try have hcm := cell_below hbq hcm
      refine hK.out _ _ (below_trans' hHeld hbq) (fun hHeld => ?_)
      clear hK K
      (try simp only [Act.put, List.setIfInBounds_toArray, List.set_cons_zero, List.set_cons_succ])
      first | (refine hand_skip (i := 10) rfl (by kernel_rfl) (by kernel_rfl) (by kernel_rfl) (fun _ _ _ h => h) (by rfl) (by assumption) ?_) | (refine hand_run (i := 10) (v := ?_) rfl (by kernel_rfl) (by kernel_rfl) (by kernel_rfl) (fun _ _ _ h => h) (by rfl) ?_ (by assumption) ?_; rotate_left; (intro W hW; have f0 := cell_below hW c0; have f1 := cell_below hW c1; have f2 := cell_below hW c2; have f3 := cell_below hW c3; have f4 := cell_below hW c4; first | (go_simp; done) | (go_simp; with_reducible rfl)))
      (try simp only [Act.put, List.setIfInBounds_toArray, List.set_cons_zero, List.set_cons_succ])
      refine hand_one (i := 11) rfl (by kernel_rfl) (fun K hK => ?_)
      refine q_yes (by rfl) ?_
      go_simp
      skip
      refine hK.out _ _ (hHeld) (fun hHeld => ?_)
      clear hK K
      (try simp only [Act.put, List.setIfInBounds_toArray, List.set_cons_zero, List.set_cons_succ])
      first | (refine hand_skip (i := 12) rfl (by kernel_rfl) (by kernel_rfl) (by kernel_rfl) (fun _ _ _ h => h) (by rfl) (by assumption) ?_) | (refine hand_run (i := 12) (v := ?_) rfl (by kernel_rfl) (by kernel_rfl) (by kernel_rfl) (fun _ _ _ h => h) (by rfl) ?_ (by assumption) ?_; rotate_left; (intro W hW; have f0 := cell_below hW c0; have f1 := cell_below hW c1; have f2 := cell_below hW c2; have f3 := cell_below hW c3; have f4 := cell_below hW c4; first | (go_simp; done) | (go_simp; with_reducible rfl)))
      (try simp only [Act.put, List.setIfInBounds_toArray, List.set_cons_zero, List.set_cons_succ])
      refine wpAnyH_done (by kernel_rfl) ?_ _
      go_wp2_with fail
      go_ret
      exact ⟨ret_bool HF.out.symm, below_trans' hb05 hHeld⟩
     ·
      refine q_yes (by rfl) ?_
      go_simp
      refine (HPR.out b hbl _ (below_trans' hb05 hHeld)).mono ?_
      rintro e wq ⟨rfl, hbq⟩
      try have hcr := cell_below hbq hcr
      try have hcm := cell_below hbq hcm
      refine hK.out _ _ (below_trans' hHeld hbq) (fun hHeld => ?_)
      clear hK K
      (try simp only [Act.put, List.setIfInBounds_toArray, List.set_cons_zero, List.set_cons_succ])
      refine hand_one (i := 6) rfl (by kernel_rfl) (fun K hK => ?_)
      refine q_yes (by rfl) ?_
      go_simp
      skip
      refine hK.out _ _ (hHeld) (fun hHeld => ?_)
      clear hK K
      (try simp only [Act.put, List.setIfInBounds_toArray, List.set_cons_zero, List.set_cons_succ])
      first | (refine hand_skip (i := 10) rfl (by kernel_rfl) (by kernel_rfl) (by kernel_rfl) (fun _ _ _ h => h) (by rfl) (by assumption) ?_) | (refine hand_run (i := 10) (v := ?_) rfl (by kernel_rfl) (by kernel_rfl) (by kernel_rfl) (fun _ _ _ h => h) (by rfl) ?_ (by assumption) ?_; rotate_left; (intro W hW; have f0 := cell_below hW c0; have f1 := cell_below hW c1; have f2 := cell_below hW c2; have f3 := cell_below hW c3; have f4 := cell_below hW c4; first | (go_simp; done) | (go_simp; with_reducible rfl)))
      (try simp only [Act.put, List.setIfInBounds_toArray, List.set_cons_zero, List.set_cons_succ])
      refine hand_one (i := 11) rfl (by kernel_rfl) (fun K hK => ?_)
      refine q_yes (by rfl) ?_
      go_simp
      skip
      refine hK.out _ _ (hHeld) (fun hHeld => ?_)
      clear hK K
      (try simp only [Act.put, List.setIfInBounds_toArray, List.set_cons_zero, List.set_cons_succ])
      first | (refine hand_skip (i := 12) rfl (by kernel_rfl) (by kernel_rfl) (by kernel_rfl) (fun _ _ _ h => h) (by rfl) (by assumption) ?_) | (refine hand_run (i := 12) (v := ?_) rfl (by kernel_rfl) (by kernel_rfl) (by kernel_rfl) (fun _ _ _ h => h) (by rfl) ?_ (by assumption) ?_; rotate_left; (intro W hW; have f0 := cell_below hW c0; have f1 := cell_below hW c1; have f2 := cell_below hW c2; have f3 := cell_below hW c3; have f4 := cell_below hW c4; first | (go_simp; done) | (go_simp; with_reducible rfl)))
      (try simp only [Act.put, List.setIfInBounds_toArray, List.set_cons_zero, List.set_cons_succ])
      refine wpAnyH_done (by kernel_rfl) ?_ _
      go_wp2_with fail
      go_ret
      exact ⟨ret_bool HF.out.symm, below_trans' hb05 hHeld⟩
end Go.Proofs.YtkgoajnnkimkaaaGreat
