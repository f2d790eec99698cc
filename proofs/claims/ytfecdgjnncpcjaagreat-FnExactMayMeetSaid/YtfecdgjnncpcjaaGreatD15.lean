/- Contracts of single and l14Single; Single of the program and of the reference. -/
import Derived.Test.YtfecdgjnncpcjaaGreatD14
set_option linter.unusedSimpArgs false
set_option linter.unusedVariables false
namespace Go.Proofs.YtfecdgjnncpcjaaGreat
open Go.ChangeShapes Go.WideShapes Go.ChangeAt Go.RowKit

theorem singR_main {k : Cd} : SingR k (mainN k) ↔ startsL k (mainN k) = [] := ⟨fun h => sing_main.1 h.2, fun h => ⟨main_root k, sing_main.2 h⟩⟩
theorem nilB_sing {k : Cd} : nilB (startsL k (mainN k)) = singB k (mainN k) := by
  by_cases h : startsL k (mainN k) = []
  · rw [nilB_yes h, singB_yes (singR_main.2 h)]
  · rw [nilB_no h, singB_no fun h1 => h (singR_main.1 h1)]
theorem single_any {B : Nat} (g : Nat) (v : CV) (k : Cd) (x : Nat) (w : World) (hr : Right k) (hW : WAt w B g v k) (hx : x < k.procs.length) :
    Calls Tryz.prog 113 #[.pointer (some ⟨g, 0, none⟩), .int .i64 x] w fun e w' => e = .returned (.bool (singB k x)) ∧ Below w.heap.size w w' := by
  by_cases hm : x = mainN k
  · subst hm
    have := single_main g v k w hr hW
    rw [nilB_sing] at this
    exact this
  · exact single_other g v k x w hr hW hx hm
theorem single_no (g : Nat) (v : CV) (k : Cd) (x : Int) (w : World) (hr : Right k) (hg : KAt w g v k) (hx : (decide (0 ≤ x) && decide (x < k.procs.length)) = false) :
    Calls Tryz.prog 113 #[.pointer (some ⟨g, 0, none⟩), .int .i64 x] w fun e w' => e = .returned (.bool false) ∧ Below w.heap.size w w' := by
  have hpl := hr.procs
  have HP := isProc_any g v k x w hg (by omega)
  rw [hx] at HP
  have HP := Lib.hid HP
  clear hx hr
  go_enter Tryz.func113, Tryz.ntmps113
  go_wp2_with fail
  refine HP.out.mono ?_
  rintro e w1 ⟨rfl, rfl⟩
  go_wp2_with fail
  go_ret
  exact ⟨rfl, Below.refl _ _⟩

theorem startsS {B L : Nat} (v : CV) (k : Cd) (x : Nat) (w : World) (hr : Right k) (hk : CodeAt w B v k) (hcb : CdB L k) (hL : L ≤ 1048576) :
    Calls Tryz.prog 144 #[.agg #[.slice v.gA k.globals.length v.gc, .slice v.lA k.locks.length v.lc, .slice v.pA k.procs.length v.pc, .slice v.eA k.entry.length v.ec, .slice v.iA k.ins.length v.ic], .int .i64 x] w (NewNats w (startsL k x)) := l14Starts_any v k x w hr hk hcb hL
set_option maxHeartbeats 1000000 in
theorem l14Single_main {B L : Nat} (v : CV) (k : Cd) (w : World) (hr : Right k) (hk : CodeAt w B v k) (hcb : CdB L k) (hL : L ≤ 1048576) :
    Calls Tryz.prog 110 #[.agg #[.slice v.gA k.globals.length v.gc, .slice v.lA k.locks.length v.lc, .slice v.pA k.procs.length v.pc, .slice v.eA k.entry.length v.ec, .slice v.iA k.ins.length v.ic], .int .i64 (mainN k : Nat)] w fun e w' => e = .returned (.bool (nilB (startsL k (mainN k)))) ∧ Below w.heap.size w w' := by
  have hkf := hk.full
  have hbx := codeBox w v k
  have HM := Lib.hid (fun W (h : CodeAt W w.heap.size v k) => l14Main_any v k W hr h)
  have HS := Lib.hid (fun W (h : CodeAt W w.heap.size v k) => l14Starts_any v k (mainN k) W hr h hcb hL)
  have HL := Lib.hid (startsL_len hr (mainN k))
  clear hk hr hcb
  generalize mainN k = m at *
  go_enter Tryz.func110, Tryz.ntmps110
  go_wp2_with fail
  generalize w.alloc (.cells #[.slice v.gA k.globals.length v.gc, .slice v.lA k.locks.length v.lc, .slice v.pA k.procs.length v.pc, .slice v.eA k.entry.length v.ec, .slice v.iA k.ins.length v.ic] 33) = W at hbx ⊢
  refine (HM.out _ (hkf.below hbx.1)).mono ?_
  rintro e w1 ⟨rfl, hb1⟩
  have hbx1 := hbx.to hb1
  obtain ⟨q1, q2, c0, c1, c2, c3, c4⟩ := id hbx1
  go_wp2_with fail
  refine (HS.out _ (hkf.below q1)).mono ?_
  rintro e w2 ⟨As, cs, rfl, hos, hb2⟩
  have hsl := HL.out
  by_cases h0 : (startsL k m).length = 0
  · have HD := Lib.hid (nilB_yes (nil_len.1 h0))
    have e0 : (((startsL k m).length : Int) == 0) = true := by simp [h0]
    clear h0 c0 c1 c2 c3 c4
    go_wp2_with fail
    go_ret
    exact ⟨ret_bool HD.out.symm, below_trans' q1 hb2⟩
  · have HD := Lib.hid (nilB_no fun h => h0 (nil_len.2 h))
    have e0 : (((startsL k m).length : Int) == 0) = false := by simp [h0]
    clear h0 c0 c1 c2 c3 c4
    go_wp2_with fail
    go_ret
    exact ⟨ret_bool HD.out.symm, below_trans' q1 hb2⟩
set_option maxRecDepth 100000 in
set_option maxHeartbeats 8000000 in
theorem l14Single_other {B L : Nat} (v : CV) (k : Cd) (x : Nat) (w : World) (hr : Right k) (hk : CodeAt w B v k) (hcb : CdB L k) (hL : L ≤ 1048576) (hx : x < k.procs.length) (hne : x ≠ mainN k) (hroot : RootP k x) :
    Calls Tryz.prog 110 #[.agg #[.slice v.gA k.globals.length v.gc, .slice v.lA k.locks.length v.lc, .slice v.pA k.procs.length v.pc, .slice v.eA k.entry.length v.ec, .slice v.iA k.ins.length v.ic], .int .i64 x] w fun e w' => e = .returned (.bool (singB k x)) ∧ Below w.heap.size w w' := by
  have hkf := hk.full
  have hbx := codeBox w v k
  have hpl := hr.procs
  have hil := hr.ins
  have HM := Lib.hid (fun W (h : CodeAt W w.heap.size v k) => l14Main_any v k W hr h)
  have HS := Lib.hid (fun W (h : CodeAt W w.heap.size v k) => l14Starts_any v k x W hr h hcb hL)
  have HL := Lib.hid (startsL_len hr x)
  have HPR := Lib.hid (fun W (hb : Below w.heap.size w W) a (ha : a < k.ins.length) => l08Proc_right v k a W hr (hkf.below hb) ha)
  have HRE := Lib.hid (fun W (hb : Below w.heap.size w W) a (ha : a < k.ins.length) => l09Reach_any v k a W hr (hkf.below hb) ha)
  have HSMx := Lib.hid (fun W (hb : Below w.heap.size w W) => l14Single_main v k W hr (hkf.below hb) hcb hL)
  have HUS := Lib.hid (fun W (hb : Below w.heap.size w W) => l14Used_any v k W hr (hkf.below hb))
  have HOP := Lib.hid (fun W (hb : Below w.heap.size w W) p (hp : p < k.procs.length) => l10Ops_any v k p 4 W hr (hkf.below hb) hp (.inl rfl))
  have HSI := Lib.hid (show SingR k x ↔ _ from ⟨fun h => (sing_other hne).1 h.2, fun h => ⟨hroot, (sing_other hne).2 h⟩⟩)
  have hml := mainN_lt hr
  have HUL := Lib.hid (fun p (h : UsedP k p) => used_lt hr h)
  have hb8 : (((x : Nat) : Int) == (mainN k : Nat)) = false := by simp; omega
  clear hk hr hcb hne hroot
  go_enter Tryz.func110, Tryz.ntmps110
  go_wp2_with fail
  generalize w.alloc (.cells #[.slice v.gA k.globals.length v.gc, .slice v.lA k.locks.length v.lc, .slice v.pA k.procs.length v.pc, .slice v.eA k.entry.length v.ec, .slice v.iA k.ins.length v.ic] 33) = W at hbx ⊢
  refine (HM.out _ (hkf.below hbx.1)).mono ?_
  rintro e w1 ⟨rfl, hb1⟩
  have hbx1 := hbx.to hb1
  obtain ⟨q1, q2, c0, c1, c2, c3, c4⟩ := id hbx1
  go_wp2_with fail
  refine (HS.out _ (hkf.below q1)).mono ?_
  rintro e w2 ⟨As, cs, rfl, hos, hb2⟩
  clear c0 c1 c2 c3 c4 q1 q2
  have hbx2 := hbx1.to hb2
  obtain ⟨hb02, q2, c0, c1, c2, c3, c4⟩ := id hbx2
  have hsl := HL.out
  clear hbx hbx1 hb1 hb2
  by_cases h1 : (startsL k x).length = 1
  · obtain ⟨ad, rfl, _, hc⟩ := (own_rd hos).nat (j := 0) (by omega)
    have hal := starts_one h1
    rw [gt_get (by omega)] at hc
    have HS1 := Lib.hid h1
    have hn1 : (((startsL k x).length : Int) != 1) = false := by simp [h1]
    generalize gt (startsL k x) 0 = s0 at *
    have z0 : 0 < (startsL k x).length := by omega
    have z1 : (0 : Int) < ((startsL k x).length : Int) := by omega
    have y1 : (0 : Int) ≤ (s0 : Int) := by omega
    have y2 : (s0 : Int) < (k.ins.length : Int) := by omega
    rw [show ad.add 0 = ad from by simp [Addr.add]] at hc
    clear h1 hos
    by_cases hpm : procN k s0 = mainN k
    · have HPM := Lib.hid hpm
      have hq1 : ((procN k s0 : Int) != (mainN k : Int)) = false := by simp [hpm]
      go_wp2_with fail
      clear hpm
      by_cases hre : Reach (nextL k) s0 s0
      · have HF := Lib.hid (singB_no fun h => (HSI.out.1 h).2.2.1 hre)
        have HRR := Lib.hid hre
        clear hre
        refine wp_region_held_drew (S := fun w' => Below w2.heap.size w2 w') (by kernel_rfl) ((Below.refl _ _).drew) (fun hHeld => ?_)
        first | (refine hand_skip (i := 0) rfl (by kernel_rfl) (by kernel_rfl) (by kernel_rfl) (fun _ _ _ h => h) (by rfl) (by assumption) ?_) | (refine hand_run (i := 0) (v := ?_) rfl (by kernel_rfl) (by kernel_rfl) (by kernel_rfl) (fun _ _ _ h => h) (by rfl) ?_ (by assumption) ?_; rotate_left; (intro W hW; have f0 := cell_below hW c0; have f1 := cell_below hW c1; have f2 := cell_below hW c2; have f3 := cell_below hW c3; have f4 := cell_below hW c4; have f5 := cell_below hW hc; first | (go_simp; done) | (go_simp; with_reducible rfl)))
        (try simp only [Act.put, List.setIfInBounds_toArray, List.set_cons_zero, List.set_cons_succ])
        first | (refine hand_skip (i := 1) rfl (by kernel_rfl) (by kernel_rfl) (by kernel_rfl) (fun _ _ _ h => h) (by rfl) (by assumption) ?_) | (refine hand_run (i := 1) (v := ?_) rfl (by kernel_rfl) (by kernel_rfl) (by kernel_rfl) (fun _ _ _ h => h) (by rfl) ?_ (by assumption) ?_; rotate_left; (intro W hW; have f0 := cell_below hW c0; have f1 := cell_below hW c1; have f2 := cell_below hW c2; have f3 := cell_below hW c3; have f4 := cell_below hW c4; have f5 := cell_below hW hc; first | (go_simp; done) | (go_simp; with_reducible rfl)))
        (try simp only [Act.put, List.setIfInBounds_toArray, List.set_cons_zero, List.set_cons_succ])
        first | (refine hand_skip (i := 2) rfl (by kernel_rfl) (by kernel_rfl) (by kernel_rfl) (fun _ _ _ h => h) (by rfl) (by assumption) ?_) | (refine hand_run (i := 2) (v := ?_) rfl (by kernel_rfl) (by kernel_rfl) (by kernel_rfl) (fun _ _ _ h => h) (by rfl) ?_ (by assumption) ?_; rotate_left; (intro W hW; have f0 := cell_below hW c0; have f1 := cell_below hW c1; have f2 := cell_below hW c2; have f3 := cell_below hW c3; have f4 := cell_below hW c4; have f5 := cell_below hW hc; first | (go_simp; done) | (go_simp; with_reducible rfl)))
        (try simp only [Act.put, List.setIfInBounds_toArray, List.set_cons_zero, List.set_cons_succ])
        first | (refine hand_skip (i := 3) rfl (by kernel_rfl) (by kernel_rfl) (by kernel_rfl) (fun _ _ _ h => h) (by rfl) (by assumption) ?_) | (refine hand_run (i := 3) (v := ?_) rfl (by kernel_rfl) (by kernel_rfl) (by kernel_rfl) (fun _ _ _ h => h) (by rfl) ?_ (by assumption) ?_; rotate_left; (intro W hW; have f0 := cell_below hW c0; have f1 := cell_below hW c1; have f2 := cell_below hW c2; have f3 := cell_below hW c3; have f4 := cell_below hW c4; have f5 := cell_below hW hc; first | (go_simp; done) | (go_simp; with_reducible rfl)))
        (try simp only [Act.put, List.setIfInBounds_toArray, List.set_cons_zero, List.set_cons_succ])
        first | (refine hand_skip (i := 4) rfl (by kernel_rfl) (by kernel_rfl) (by kernel_rfl) (fun _ _ _ h => h) (by rfl) (by assumption) ?_) | (refine hand_run (i := 4) (v := ?_) rfl (by kernel_rfl) (by kernel_rfl) (by kernel_rfl) (fun _ _ _ h => h) (by rfl) ?_ (by assumption) ?_; rotate_left; (intro W hW; have f0 := cell_below hW c0; have f1 := cell_below hW c1; have f2 := cell_below hW c2; have f3 := cell_below hW c3; have f4 := cell_below hW c4; have f5 := cell_below hW hc; first | (go_simp; done) | (go_simp; with_reducible rfl)))
        (try simp only [Act.put, List.setIfInBounds_toArray, List.set_cons_zero, List.set_cons_succ])
        first | (refine hand_skip (i := 5) rfl (by kernel_rfl) (by kernel_rfl) (by kernel_rfl) (fun _ _ _ h => h) (by rfl) (by assumption) ?_) | (refine hand_run (i := 5) (v := ?_) rfl (by kernel_rfl) (by kernel_rfl) (by kernel_rfl) (fun _ _ _ h => h) (by rfl) ?_ (by assumption) ?_; rotate_left; (intro W hW; have f0 := cell_below hW c0; have f1 := cell_below hW c1; have f2 := cell_below hW c2; have f3 := cell_below hW c3; have f4 := cell_below hW c4; have f5 := cell_below hW hc; first | (go_simp; done) | (go_simp; with_reducible rfl)))
        (try simp only [Act.put, List.setIfInBounds_toArray, List.set_cons_zero, List.set_cons_succ])
        first | (refine hand_skip (i := 6) rfl (by kernel_rfl) (by kernel_rfl) (by kernel_rfl) (fun _ _ _ h => h) (by rfl) (by assumption) ?_) | (refine hand_run (i := 6) (v := ?_) rfl (by kernel_rfl) (by kernel_rfl) (by kernel_rfl) (fun _ _ _ h => h) (by rfl) ?_ (by assumption) ?_; rotate_left; (intro W hW; have f0 := cell_below hW c0; have f1 := cell_below hW c1; have f2 := cell_below hW c2; have f3 := cell_below hW c3; have f4 := cell_below hW c4; have f5 := cell_below hW hc; first | (go_simp; done) | (go_simp; with_reducible rfl)))
        (try simp only [Act.put, List.setIfInBounds_toArray, List.set_cons_zero, List.set_cons_succ])
        first | (refine hand_skip (i := 7) rfl (by kernel_rfl) (by kernel_rfl) (by kernel_rfl) (fun _ _ _ h => h) (by rfl) (by assumption) ?_) | (refine hand_run (i := 7) (v := ?_) rfl (by kernel_rfl) (by kernel_rfl) (by kernel_rfl) (fun _ _ _ h => h) (by rfl) ?_ (by assumption) ?_; rotate_left; (intro W hW; have f0 := cell_below hW c0; have f1 := cell_below hW c1; have f2 := cell_below hW c2; have f3 := cell_below hW c3; have f4 := cell_below hW c4; have f5 := cell_below hW hc; first | (go_simp; done) | (go_simp; with_reducible rfl)))
        (try simp only [Act.put, List.setIfInBounds_toArray, List.set_cons_zero, List.set_cons_succ])
        first | (refine hand_skip (i := 9) rfl (by kernel_rfl) (by kernel_rfl) (by kernel_rfl) (fun _ _ _ h => h) (by rfl) (by assumption) ?_) | (refine hand_run (i := 9) (v := ?_) rfl (by kernel_rfl) (by kernel_rfl) (by kernel_rfl) (fun _ _ _ h => h) (by rfl) ?_ (by assumption) ?_; rotate_left; (intro W hW; have f0 := cell_below hW c0; have f1 := cell_below hW c1; have f2 := cell_below hW c2; have f3 := cell_below hW c3; have f4 := cell_below hW c4; have f5 := cell_below hW hc; first | (go_simp; done) | (go_simp; with_reducible rfl)))
        (try simp only [Act.put, List.setIfInBounds_toArray, List.set_cons_zero, List.set_cons_succ])
        refine hand_one (i := 8) rfl (by kernel_rfl) (fun K hK => ?_)
        refine q_yes (by rfl) ?_
        go_simp
        refine (HPR.out _ (below_trans' hb02 hHeld) s0 hal).mono ?_
        rintro e w5 ⟨rfl, hb5⟩
        refine hK.out _ _ (below_trans' hHeld hb5) (fun hHeld => ?_)
        clear hK K
        (try simp only [Act.put, List.setIfInBounds_toArray, List.set_cons_zero, List.set_cons_succ])
        first | (refine hand_skip (i := 10) rfl (by kernel_rfl) (by kernel_rfl) (by kernel_rfl) (fun _ _ _ h => h) (by rfl) (by assumption) ?_) | (refine hand_run (i := 10) (v := ?_) rfl (by kernel_rfl) (by kernel_rfl) (by kernel_rfl) (fun _ _ _ h => h) (by rfl) ?_ (by assumption) ?_; rotate_left; (intro W hW; have f0 := cell_below hW c0; have f1 := cell_below hW c1; have f2 := cell_below hW c2; have f3 := cell_below hW c3; have f4 := cell_below hW c4; have f5 := cell_below hW hc; first | (go_simp; done) | (go_simp; with_reducible rfl)))
        (try simp only [Act.put, List.setIfInBounds_toArray, List.set_cons_zero, List.set_cons_succ])
        first | (refine hand_skip (i := 11) rfl (by kernel_rfl) (by kernel_rfl) (by kernel_rfl) (fun _ _ _ h => h) (by rfl) (by assumption) ?_) | (refine hand_run (i := 11) (v := ?_) rfl (by kernel_rfl) (by kernel_rfl) (by kernel_rfl) (fun _ _ _ h => h) (by rfl) ?_ (by assumption) ?_; rotate_left; (intro W hW; have f0 := cell_below hW c0; have f1 := cell_below hW c1; have f2 := cell_below hW c2; have f3 := cell_below hW c3; have f4 := cell_below hW c4; have f5 := cell_below hW hc; first | (go_simp; done) | (go_simp; with_reducible rfl)))
        (try simp only [Act.put, List.setIfInBounds_toArray, List.set_cons_zero, List.set_cons_succ])
        first | (refine hand_skip (i := 12) rfl (by kernel_rfl) (by kernel_rfl) (by kernel_rfl) (fun _ _ _ h => h) (by rfl) (by assumption) ?_) | (refine hand_run (i := 12) (v := ?_) rfl (by kernel_rfl) (by kernel_rfl) (by kernel_rfl) (fun _ _ _ h => h) (by rfl) ?_ (by assumption) ?_; rotate_left; (intro W hW; have f0 := cell_below hW c0; have f1 := cell_below hW c1; have f2 := cell_below hW c2; have f3 := cell_below hW c3; have f4 := cell_below hW c4; have f5 := cell_below hW hc; first | (go_simp; done) | (go_simp; with_reducible rfl)))
        (try simp only [Act.put, List.setIfInBounds_toArray, List.set_cons_zero, List.set_cons_succ])
        first | (refine hand_skip (i := 13) rfl (by kernel_rfl) (by kernel_rfl) (by kernel_rfl) (fun _ _ _ h => h) (by rfl) (by assumption) ?_) | (refine hand_run (i := 13) (v := ?_) rfl (by kernel_rfl) (by kernel_rfl) (by kernel_rfl) (fun _ _ _ h => h) (by rfl) ?_ (by assumption) ?_; rotate_left; (intro W hW; have f0 := cell_below hW c0; have f1 := cell_below hW c1; have f2 := cell_below hW c2; have f3 := cell_below hW c3; have f4 := cell_below hW c4; have f5 := cell_below hW hc; first | (go_simp; done) | (go_simp; with_reducible rfl)))
        (try simp only [Act.put, List.setIfInBounds_toArray, List.set_cons_zero, List.set_cons_succ])
        first | (refine hand_skip (i := 14) rfl (by kernel_rfl) (by kernel_rfl) (by kernel_rfl) (fun _ _ _ h => h) (by rfl) (by assumption) ?_) | (refine hand_run (i := 14) (v := ?_) rfl (by kernel_rfl) (by kernel_rfl) (by kernel_rfl) (fun _ _ _ h => h) (by rfl) ?_ (by assumption) ?_; rotate_left; (intro W hW; have f0 := cell_below hW c0; have f1 := cell_below hW c1; have f2 := cell_below hW c2; have f3 := cell_below hW c3; have f4 := cell_below hW c4; have f5 := cell_below hW hc; first | (go_simp; done) | (go_simp; with_reducible rfl)))
        (try simp only [Act.put, List.setIfInBounds_toArray, List.set_cons_zero, List.set_cons_succ])
        first | (refine hand_skip (i := 15) rfl (by kernel_rfl) (by kernel_rfl) (by kernel_rfl) (fun _ _ _ h => h) (by rfl) (by assumption) ?_) | (refine hand_run (i := 15) (v := ?_) rfl (by kernel_rfl) (by kernel_rfl) (by kernel_rfl) (fun _ _ _ h => h) (by rfl) ?_ (by assumption) ?_; rotate_left; (intro W hW; have f0 := cell_below hW c0; have f1 := cell_below hW c1; have f2 := cell_below hW c2; have f3 := cell_below hW c3; have f4 := cell_below hW c4; have f5 := cell_below hW hc; first | (go_simp; done) | (go_simp; with_reducible rfl)))
        (try simp only [Act.put, List.setIfInBounds_toArray, List.set_cons_zero, List.set_cons_succ])
        first | (refine hand_skip (i := 16) rfl (by kernel_rfl) (by kernel_rfl) (by kernel_rfl) (fun _ _ _ h => h) (by rfl) (by assumption) ?_) | (refine hand_run (i := 16) (v := ?_) rfl (by kernel_rfl) (by kernel_rfl) (by kernel_rfl) (fun _ _ _ h => h) (by rfl) ?_ (by assumption) ?_; rotate_left; (intro W hW; have f0 := cell_below hW c0; have f1 := cell_below hW c1; have f2 := cell_below hW c2; have f3 := cell_below hW c3; have f4 := cell_below hW c4; have f5 := cell_below hW hc; first | (go_simp; done) | (go_simp; with_reducible rfl)))
        (try simp only [Act.put, List.setIfInBounds_toArray, List.set_cons_zero, List.set_cons_succ])
        first | (refine hand_skip (i := 18) rfl (by kernel_rfl) (by kernel_rfl) (by kernel_rfl) (fun _ _ _ h => h) (by rfl) (by assumption) ?_) | (refine hand_run (i := 18) (v := ?_) rfl (by kernel_rfl) (by kernel_rfl) (by kernel_rfl) (fun _ _ _ h => h) (by rfl) ?_ (by assumption) ?_; rotate_left; (intro W hW; have f0 := cell_below hW c0; have f1 := cell_below hW c1; have f2 := cell_below hW c2; have f3 := cell_below hW c3; have f4 := cell_below hW c4; have f5 := cell_below hW hc; first | (go_simp; done) | (go_simp; with_reducible rfl)))
        (try simp only [Act.put, List.setIfInBounds_toArray, List.set_cons_zero, List.set_cons_succ])
        first | (refine hand_skip (i := 19) rfl (by kernel_rfl) (by kernel_rfl) (by kernel_rfl) (fun _ _ _ h => h) (by rfl) (by assumption) ?_) | (refine hand_run (i := 19) (v := ?_) rfl (by kernel_rfl) (by kernel_rfl) (by kernel_rfl) (fun _ _ _ h => h) (by rfl) ?_ (by assumption) ?_; rotate_left; (intro W hW; have f0 := cell_below hW c0; have f1 := cell_below hW c1; have f2 := cell_below hW c2; have f3 := cell_below hW c3; have f4 := cell_below hW c4; have f5 := cell_below hW hc; first | (go_simp; done) | (go_simp; with_reducible rfl)))
        (try simp only [Act.put, List.setIfInBounds_toArray, List.set_cons_zero, List.set_cons_succ])
        first | (refine hand_skip (i := 20) rfl (by kernel_rfl) (by kernel_rfl) (by kernel_rfl) (fun _ _ _ h => h) (by rfl) (by assumption) ?_) | (refine hand_run (i := 20) (v := ?_) rfl (by kernel_rfl) (by kernel_rfl) (by kernel_rfl) (fun _ _ _ h => h) (by rfl) ?_ (by assumption) ?_; rotate_left; (intro W hW; have f0 := cell_below hW c0; have f1 := cell_below hW c1; have f2 := cell_below hW c2; have f3 := cell_below hW c3; have f4 := cell_below hW c4; have f5 := cell_below hW hc; first | (go_simp; done) | (go_simp; with_reducible rfl)))
        (try simp only [Act.put, List.setIfInBounds_toArray, List.set_cons_zero, List.set_cons_succ])
        refine hand_one (i := 17) rfl (by kernel_rfl) (fun K hK => ?_)
        refine q_yes (by rfl) ?_
        go_simp
        refine (HRE.out _ (below_trans' hb02 hHeld) s0 hal).mono ?_
        rintro e w6 ⟨Am, cm, rfl, hom, hb6⟩
        obtain ⟨adm, rfl, _, hcm⟩ := (own_rd hom).mark (j := s0) (by rw [markL_len]; exact hal)
        rw [mkd_markL_pos hal HRR.out] at hcm
        rw [markL_len]
        refine hK.out _ _ (below_trans' hHeld hb6) (fun hHeld => ?_)
        clear hK K
        (try simp only [Act.put, List.setIfInBounds_toArray, List.set_cons_zero, List.set_cons_succ])
        first | (refine hand_skip (i := 21) rfl (by kernel_rfl) (by kernel_rfl) (by kernel_rfl) (fun _ _ _ h => h) (by rfl) (by assumption) ?_) | (refine hand_run (i := 21) (v := ?_) rfl (by kernel_rfl) (by kernel_rfl) (by kernel_rfl) (fun _ _ _ h => h) (by rfl) ?_ (by assumption) ?_; rotate_left; (intro W hW; have f0 := cell_below hW c0; have f1 := cell_below hW c1; have f2 := cell_below hW c2; have f3 := cell_below hW c3; have f4 := cell_below hW c4; have f5 := cell_below hW hc; first | (go_simp; done) | (go_simp; with_reducible rfl)))
        (try simp only [Act.put, List.setIfInBounds_toArray, List.set_cons_zero, List.set_cons_succ])
        refine hand_one (i := 22) rfl (by kernel_rfl) (fun K hK => ?_)
        refine q_yes (by rfl) ?_
        go_simp
        skip
        refine hK.out _ _ (hHeld) (fun hHeld => ?_)
        clear hK K
        (try simp only [Act.put, List.setIfInBounds_toArray, List.set_cons_zero, List.set_cons_succ])
        first | (refine hand_skip (i := 23) rfl (by kernel_rfl) (by kernel_rfl) (by kernel_rfl) (fun _ _ _ h => h) (by rfl) (by assumption) ?_) | (refine hand_run (i := 23) (v := ?_) rfl (by kernel_rfl) (by kernel_rfl) (by kernel_rfl) (fun _ _ _ h => h) (by rfl) ?_ (by assumption) ?_; rotate_left; (intro W hW; have f0 := cell_below hW c0; have f1 := cell_below hW c1; have f2 := cell_below hW c2; have f3 := cell_below hW c3; have f4 := cell_below hW c4; have f5 := cell_below hW hc; first | (go_simp; done) | (go_simp; with_reducible rfl)))
        (try simp only [Act.put, List.setIfInBounds_toArray, List.set_cons_zero, List.set_cons_succ])
        first | (refine hand_skip (i := 24) rfl (by kernel_rfl) (by kernel_rfl) (by kernel_rfl) (fun _ _ _ h => h) (by rfl) (by assumption) ?_) | (refine hand_run (i := 24) (v := ?_) rfl (by kernel_rfl) (by kernel_rfl) (by kernel_rfl) (fun _ _ _ h => h) (by rfl) ?_ (by assumption) ?_; rotate_left; (intro W hW; have f0 := cell_below hW c0; have f1 := cell_below hW c1; have f2 := cell_below hW c2; have f3 := cell_below hW c3; have f4 := cell_below hW c4; have f5 := cell_below hW hc; first | (go_simp; done) | (go_simp; with_reducible rfl)))
        (try simp only [Act.put, List.setIfInBounds_toArray, List.set_cons_zero, List.set_cons_succ])
        first | (refine hand_skip (i := 25) rfl (by kernel_rfl) (by kernel_rfl) (by kernel_rfl) (fun _ _ _ h => h) (by rfl) (by assumption) ?_) | (refine hand_run (i := 25) (v := ?_) rfl (by kernel_rfl) (by kernel_rfl) (by kernel_rfl) (fun _ _ _ h => h) (by rfl) ?_ (by assumption) ?_; rotate_left; (intro W hW; have f0 := cell_below hW c0; have f1 := cell_below hW c1; have f2 := cell_below hW c2; have f3 := cell_below hW c3; have f4 := cell_below hW c4; have f5 := cell_below hW hc; first | (go_simp; done) | (go_simp; with_reducible rfl)))
        (try simp only [Act.put, List.setIfInBounds_toArray, List.set_cons_zero, List.set_cons_succ])
        first | (refine hand_skip (i := 26) rfl (by kernel_rfl) (by kernel_rfl) (by kernel_rfl) (fun _ _ _ h => h) (by rfl) (by assumption) ?_) | (refine hand_run (i := 26) (v := ?_) rfl (by kernel_rfl) (by kernel_rfl) (by kernel_rfl) (fun _ _ _ h => h) (by rfl) ?_ (by assumption) ?_; rotate_left; (intro W hW; have f0 := cell_below hW c0; have f1 := cell_below hW c1; have f2 := cell_below hW c2; have f3 := cell_below hW c3; have f4 := cell_below hW c4; have f5 := cell_below hW hc; first | (go_simp; done) | (go_simp; with_reducible rfl)))
        (try simp only [Act.put, List.setIfInBounds_toArray, List.set_cons_zero, List.set_cons_succ])
        first | (refine hand_skip (i := 27) rfl (by kernel_rfl) (by kernel_rfl) (by kernel_rfl) (fun _ _ _ h => h) (by rfl) (by assumption) ?_) | (refine hand_run (i := 27) (v := ?_) rfl (by kernel_rfl) (by kernel_rfl) (by kernel_rfl) (fun _ _ _ h => h) (by rfl) ?_ (by assumption) ?_; rotate_left; (intro W hW; have f0 := cell_below hW c0; have f1 := cell_below hW c1; have f2 := cell_below hW c2; have f3 := cell_below hW c3; have f4 := cell_below hW c4; have f5 := cell_below hW hc; first | (go_simp; done) | (go_simp; with_reducible rfl)))
        (try simp only [Act.put, List.setIfInBounds_toArray, List.set_cons_zero, List.set_cons_succ])
        first | (refine hand_skip (i := 28) rfl (by kernel_rfl) (by kernel_rfl) (by kernel_rfl) (fun _ _ _ h => h) (by rfl) (by assumption) ?_) | (refine hand_run (i := 28) (v := ?_) rfl (by kernel_rfl) (by kernel_rfl) (by kernel_rfl) (fun _ _ _ h => h) (by rfl) ?_ (by assumption) ?_; rotate_left; (intro W hW; have f0 := cell_below hW c0; have f1 := cell_below hW c1; have f2 := cell_below hW c2; have f3 := cell_below hW c3; have f4 := cell_below hW c4; have f5 := cell_below hW hc; first | (go_simp; done) | (go_simp; with_reducible rfl)))
        (try simp only [Act.put, List.setIfInBounds_toArray, List.set_cons_zero, List.set_cons_succ])
        first | (refine hand_skip (i := 29) rfl (by kernel_rfl) (by kernel_rfl) (by kernel_rfl) (fun _ _ _ h => h) (by rfl) (by assumption) ?_) | (refine hand_run (i := 29) (v := ?_) rfl (by kernel_rfl) (by kernel_rfl) (by kernel_rfl) (fun _ _ _ h => h) (by rfl) ?_ (by assumption) ?_; rotate_left; (intro W hW; have f0 := cell_below hW c0; have f1 := cell_below hW c1; have f2 := cell_below hW c2; have f3 := cell_below hW c3; have f4 := cell_below hW c4; have f5 := cell_below hW hc; first | (go_simp; done) | (go_simp; with_reducible rfl)))
        (try simp only [Act.put, List.setIfInBounds_toArray, List.set_cons_zero, List.set_cons_succ])
        refine wpAnyH_done (by kernel_rfl) ?_ _
        go_wp2_with fail
        go_ret
        exact ⟨ret_bool HF.out.symm, below_trans' hb02 hHeld⟩
      · have HRR := Lib.hid hre
        clear hre
        by_cases hsm : startsL k (mainN k) = []
        · have HSM := HSMx.out
          rw [nilB_yes hsm] at HSM
          have HSM := Lib.hid HSM
          have HNIL := Lib.hid hsm
          clear hsm
          refine wp_region_held_drew (S := fun w' => Below w2.heap.size w2 w') (by kernel_rfl) ((Below.refl _ _).drew) (fun hHeld => ?_)
          first | (refine hand_skip (i := 0) rfl (by kernel_rfl) (by kernel_rfl) (by kernel_rfl) (fun _ _ _ h => h) (by rfl) (by assumption) ?_) | (refine hand_run (i := 0) (v := ?_) rfl (by kernel_rfl) (by kernel_rfl) (by kernel_rfl) (fun _ _ _ h => h) (by rfl) ?_ (by assumption) ?_; rotate_left; (intro W hW; have f0 := cell_below hW c0; have f1 := cell_below hW c1; have f2 := cell_below hW c2; have f3 := cell_below hW c3; have f4 := cell_below hW c4; have f5 := cell_below hW hc; first | (go_simp; done) | (go_simp; with_reducible rfl)))
          (try simp only [Act.put, List.setIfInBounds_toArray, List.set_cons_zero, List.set_cons_succ])
          first | (refine hand_skip (i := 1) rfl (by kernel_rfl) (by kernel_rfl) (by kernel_rfl) (fun _ _ _ h => h) (by rfl) (by assumption) ?_) | (refine hand_run (i := 1) (v := ?_) rfl (by kernel_rfl) (by kernel_rfl) (by kernel_rfl) (fun _ _ _ h => h) (by rfl) ?_ (by assumption) ?_; rotate_left; (intro W hW; have f0 := cell_below hW c0; have f1 := cell_below hW c1; have f2 := cell_below hW c2; have f3 := cell_below hW c3; have f4 := cell_below hW c4; have f5 := cell_below hW hc; first | (go_simp; done) | (go_simp; with_reducible rfl)))
          (try simp only [Act.put, List.setIfInBounds_toArray, List.set_cons_zero, List.set_cons_succ])
          first | (refine hand_skip (i := 2) rfl (by kernel_rfl) (by kernel_rfl) (by kernel_rfl) (fun _ _ _ h => h) (by rfl) (by assumption) ?_) | (refine hand_run (i := 2) (v := ?_) rfl (by kernel_rfl) (by kernel_rfl) (by kernel_rfl) (fun _ _ _ h => h) (by rfl) ?_ (by assumption) ?_; rotate_left; (intro W hW; have f0 := cell_below hW c0; have f1 := cell_below hW c1; have f2 := cell_below hW c2; have f3 := cell_below hW c3; have f4 := cell_below hW c4; have f5 := cell_below hW hc; first | (go_simp; done) | (go_simp; with_reducible rfl)))
          (try simp only [Act.put, List.setIfInBounds_toArray, List.set_cons_zero, List.set_cons_succ])
          first | (refine hand_skip (i := 3) rfl (by kernel_rfl) (by kernel_rfl) (by kernel_rfl) (fun _ _ _ h => h) (by rfl) (by assumption) ?_) | (refine hand_run (i := 3) (v := ?_) rfl (by kernel_rfl) (by kernel_rfl) (by kernel_rfl) (fun _ _ _ h => h) (by rfl) ?_ (by assumption) ?_; rotate_left; (intro W hW; have f0 := cell_below hW c0; have f1 := cell_below hW c1; have f2 := cell_below hW c2; have f3 := cell_below hW c3; have f4 := cell_below hW c4; have f5 := cell_below hW hc; first | (go_simp; done) | (go_simp; with_reducible rfl)))
          (try simp only [Act.put, List.setIfInBounds_toArray, List.set_cons_zero, List.set_cons_succ])
          first | (refine hand_skip (i := 4) rfl (by kernel_rfl) (by kernel_rfl) (by kernel_rfl) (fun _ _ _ h => h) (by rfl) (by assumption) ?_) | (refine hand_run (i := 4) (v := ?_) rfl (by kernel_rfl) (by kernel_rfl) (by kernel_rfl) (fun _ _ _ h => h) (by rfl) ?_ (by assumption) ?_; rotate_left; (intro W hW; have f0 := cell_below hW c0; have f1 := cell_below hW c1; have f2 := cell_below hW c2; have f3 := cell_below hW c3; have f4 := cell_below hW c4; have f5 := cell_below hW hc; first | (go_simp; done) | (go_simp; with_reducible rfl)))
          (try simp only [Act.put, List.setIfInBounds_toArray, List.set_cons_zero, List.set_cons_succ])
          first | (refine hand_skip (i := 5) rfl (by kernel_rfl) (by kernel_rfl) (by kernel_rfl) (fun _ _ _ h => h) (by rfl) (by assumption) ?_) | (refine hand_run (i := 5) (v := ?_) rfl (by kernel_rfl) (by kernel_rfl) (by kernel_rfl) (fun _ _ _ h => h) (by rfl) ?_ (by assumption) ?_; rotate_left; (intro W hW; have f0 := cell_below hW c0; have f1 := cell_below hW c1; have f2 := cell_below hW c2; have f3 := cell_below hW c3; have f4 := cell_below hW c4; have f5 := cell_below hW hc; first | (go_simp; done) | (go_simp; with_reducible rfl)))
          (try simp only [Act.put, List.setIfInBounds_toArray, List.set_cons_zero, List.set_cons_succ])
          first | (refine hand_skip (i := 6) rfl (by kernel_rfl) (by kernel_rfl) (by kernel_rfl) (fun _ _ _ h => h) (by rfl) (by assumption) ?_) | (refine hand_run (i := 6) (v := ?_) rfl (by kernel_rfl) (by kernel_rfl) (by kernel_rfl) (fun _ _ _ h => h) (by rfl) ?_ (by assumption) ?_; rotate_left; (intro W hW; have f0 := cell_below hW c0; have f1 := cell_below hW c1; have f2 := cell_below hW c2; have f3 := cell_below hW c3; have f4 := cell_below hW c4; have f5 := cell_below hW hc; first | (go_simp; done) | (go_simp; with_reducible rfl)))
          (try simp only [Act.put, List.setIfInBounds_toArray, List.set_cons_zero, List.set_cons_succ])
          first | (refine hand_skip (i := 7) rfl (by kernel_rfl) (by kernel_rfl) (by kernel_rfl) (fun _ _ _ h => h) (by rfl) (by assumption) ?_) | (refine hand_run (i := 7) (v := ?_) rfl (by kernel_rfl) (by kernel_rfl) (by kernel_rfl) (fun _ _ _ h => h) (by rfl) ?_ (by assumption) ?_; rotate_left; (intro W hW; have f0 := cell_below hW c0; have f1 := cell_below hW c1; have f2 := cell_below hW c2; have f3 := cell_below hW c3; have f4 := cell_below hW c4; have f5 := cell_below hW hc; first | (go_simp; done) | (go_simp; with_reducible rfl)))
          (try simp only [Act.put, List.setIfInBounds_toArray, List.set_cons_zero, List.set_cons_succ])
          first | (refine hand_skip (i := 9) rfl (by kernel_rfl) (by kernel_rfl) (by kernel_rfl) (fun _ _ _ h => h) (by rfl) (by assumption) ?_) | (refine hand_run (i := 9) (v := ?_) rfl (by kernel_rfl) (by kernel_rfl) (by kernel_rfl) (fun _ _ _ h => h) (by rfl) ?_ (by assumption) ?_; rotate_left; (intro W hW; have f0 := cell_below hW c0; have f1 := cell_below hW c1; have f2 := cell_below hW c2; have f3 := cell_below hW c3; have f4 := cell_below hW c4; have f5 := cell_below hW hc; first | (go_simp; done) | (go_simp; with_reducible rfl)))
          (try simp only [Act.put, List.setIfInBounds_toArray, List.set_cons_zero, List.set_cons_succ])
          refine hand_one (i := 8) rfl (by kernel_rfl) (fun K hK => ?_)
          refine q_yes (by rfl) ?_
          go_simp
          refine (HPR.out _ (below_trans' hb02 hHeld) s0 hal).mono ?_
          rintro e w5 ⟨rfl, hb5⟩
          refine hK.out _ _ (below_trans' hHeld hb5) (fun hHeld => ?_)
          clear hK K
          (try simp only [Act.put, List.setIfInBounds_toArray, List.set_cons_zero, List.set_cons_succ])
          first | (refine hand_skip (i := 10) rfl (by kernel_rfl) (by kernel_rfl) (by kernel_rfl) (fun _ _ _ h => h) (by rfl) (by assumption) ?_) | (refine hand_run (i := 10) (v := ?_) rfl (by kernel_rfl) (by kernel_rfl) (by kernel_rfl) (fun _ _ _ h => h) (by rfl) ?_ (by assumption) ?_; rotate_left; (intro W hW; have f0 := cell_below hW c0; have f1 := cell_below hW c1; have f2 := cell_below hW c2; have f3 := cell_below hW c3; have f4 := cell_below hW c4; have f5 := cell_below hW hc; first | (go_simp; done) | (go_simp; with_reducible rfl)))
          (try simp only [Act.put, List.setIfInBounds_toArray, List.set_cons_zero, List.set_cons_succ])
          first | (refine hand_skip (i := 11) rfl (by kernel_rfl) (by kernel_rfl) (by kernel_rfl) (fun _ _ _ h => h) (by rfl) (by assumption) ?_) | (refine hand_run (i := 11) (v := ?_) rfl (by kernel_rfl) (by kernel_rfl) (by kernel_rfl) (fun _ _ _ h => h) (by rfl) ?_ (by assumption) ?_; rotate_left; (intro W hW; have f0 := cell_below hW c0; have f1 := cell_below hW c1; have f2 := cell_below hW c2; have f3 := cell_below hW c3; have f4 := cell_below hW c4; have f5 := cell_below hW hc; first | (go_simp; done) | (go_simp; with_reducible rfl)))
          (try simp only [Act.put, List.setIfInBounds_toArray, List.set_cons_zero, List.set_cons_succ])
          first | (refine hand_skip (i := 12) rfl (by kernel_rfl) (by kernel_rfl) (by kernel_rfl) (fun _ _ _ h => h) (by rfl) (by assumption) ?_) | (refine hand_run (i := 12) (v := ?_) rfl (by kernel_rfl) (by kernel_rfl) (by kernel_rfl) (fun _ _ _ h => h) (by rfl) ?_ (by assumption) ?_; rotate_left; (intro W hW; have f0 := cell_below hW c0; have f1 := cell_below hW c1; have f2 := cell_below hW c2; have f3 := cell_below hW c3; have f4 := cell_below hW c4; have f5 := cell_below hW hc; first | (go_simp; done) | (go_simp; with_reducible rfl)))
          (try simp only [Act.put, List.setIfInBounds_toArray, List.set_cons_zero, List.set_cons_succ])
          first | (refine hand_skip (i := 13) rfl (by kernel_rfl) (by kernel_rfl) (by kernel_rfl) (fun _ _ _ h => h) (by rfl) (by assumption) ?_) | (refine hand_run (i := 13) (v := ?_) rfl (by kernel_rfl) (by kernel_rfl) (by kernel_rfl) (fun _ _ _ h => h) (by rfl) ?_ (by assumption) ?_; rotate_left; (intro W hW; have f0 := cell_below hW c0; have f1 := cell_below hW c1; have f2 := cell_below hW c2; have f3 := cell_below hW c3; have f4 := cell_below hW c4; have f5 := cell_below hW hc; first | (go_simp; done) | (go_simp; with_reducible rfl)))
          (try simp only [Act.put, List.setIfInBounds_toArray, List.set_cons_zero, List.set_cons_succ])
          first | (refine hand_skip (i := 14) rfl (by kernel_rfl) (by kernel_rfl) (by kernel_rfl) (fun _ _ _ h => h) (by rfl) (by assumption) ?_) | (refine hand_run (i := 14) (v := ?_) rfl (by kernel_rfl) (by kernel_rfl) (by kernel_rfl) (fun _ _ _ h => h) (by rfl) ?_ (by assumption) ?_; rotate_left; (intro W hW; have f0 := cell_below hW c0; have f1 := cell_below hW c1; have f2 := cell_below hW c2; have f3 := cell_below hW c3; have f4 := cell_below hW c4; have f5 := cell_below hW hc; first | (go_simp; done) | (go_simp; with_reducible rfl)))
          (try simp only [Act.put, List.setIfInBounds_toArray, List.set_cons_zero, List.set_cons_succ])
          first | (refine hand_skip (i := 15) rfl (by kernel_rfl) (by kernel_rfl) (by kernel_rfl) (fun _ _ _ h => h) (by rfl) (by assumption) ?_) | (refine hand_run (i := 15) (v := ?_) rfl (by kernel_rfl) (by kernel_rfl) (by kernel_rfl) (fun _ _ _ h => h) (by rfl) ?_ (by assumption) ?_; rotate_left; (intro W hW; have f0 := cell_below hW c0; have f1 := cell_below hW c1; have f2 := cell_below hW c2; have f3 := cell_below hW c3; have f4 := cell_below hW c4; have f5 := cell_below hW hc; first | (go_simp; done) | (go_simp; with_reducible rfl)))
          (try simp only [Act.put, List.setIfInBounds_toArray, List.set_cons_zero, List.set_cons_succ])
          first | (refine hand_skip (i := 16) rfl (by kernel_rfl) (by kernel_rfl) (by kernel_rfl) (fun _ _ _ h => h) (by rfl) (by assumption) ?_) | (refine hand_run (i := 16) (v := ?_) rfl (by kernel_rfl) (by kernel_rfl) (by kernel_rfl) (fun _ _ _ h => h) (by rfl) ?_ (by assumption) ?_; rotate_left; (intro W hW; have f0 := cell_below hW c0; have f1 := cell_below hW c1; have f2 := cell_below hW c2; have f3 := cell_below hW c3; have f4 := cell_below hW c4; have f5 := cell_below hW hc; first | (go_simp; done) | (go_simp; with_reducible rfl)))
          (try simp only [Act.put, List.setIfInBounds_toArray, List.set_cons_zero, List.set_cons_succ])
          first | (refine hand_skip (i := 18) rfl (by kernel_rfl) (by kernel_rfl) (by kernel_rfl) (fun _ _ _ h => h) (by rfl) (by assumption) ?_) | (refine hand_run (i := 18) (v := ?_) rfl (by kernel_rfl) (by kernel_rfl) (by kernel_rfl) (fun _ _ _ h => h) (by rfl) ?_ (by assumption) ?_; rotate_left; (intro W hW; have f0 := cell_below hW c0; have f1 := cell_below hW c1; have f2 := cell_below hW c2; have f3 := cell_below hW c3; have f4 := cell_below hW c4; have f5 := cell_below hW hc; first | (go_simp; done) | (go_simp; with_reducible rfl)))
          (try simp only [Act.put, List.setIfInBounds_toArray, List.set_cons_zero, List.set_cons_succ])
          first | (refine hand_skip (i := 19) rfl (by kernel_rfl) (by kernel_rfl) (by kernel_rfl) (fun _ _ _ h => h) (by rfl) (by assumption) ?_) | (refine hand_run (i := 19) (v := ?_) rfl (by kernel_rfl) (by kernel_rfl) (by kernel_rfl) (fun _ _ _ h => h) (by rfl) ?_ (by assumption) ?_; rotate_left; (intro W hW; have f0 := cell_below hW c0; have f1 := cell_below hW c1; have f2 := cell_below hW c2; have f3 := cell_below hW c3; have f4 := cell_below hW c4; have f5 := cell_below hW hc; first | (go_simp; done) | (go_simp; with_reducible rfl)))
          (try simp only [Act.put, List.setIfInBounds_toArray, List.set_cons_zero, List.set_cons_succ])
          first | (refine hand_skip (i := 20) rfl (by kernel_rfl) (by kernel_rfl) (by kernel_rfl) (fun _ _ _ h => h) (by rfl) (by assumption) ?_) | (refine hand_run (i := 20) (v := ?_) rfl (by kernel_rfl) (by kernel_rfl) (by kernel_rfl) (fun _ _ _ h => h) (by rfl) ?_ (by assumption) ?_; rotate_left; (intro W hW; have f0 := cell_below hW c0; have f1 := cell_below hW c1; have f2 := cell_below hW c2; have f3 := cell_below hW c3; have f4 := cell_below hW c4; have f5 := cell_below hW hc; first | (go_simp; done) | (go_simp; with_reducible rfl)))
          (try simp only [Act.put, List.setIfInBounds_toArray, List.set_cons_zero, List.set_cons_succ])
          refine hand_one (i := 17) rfl (by kernel_rfl) (fun K hK => ?_)
          refine q_yes (by rfl) ?_
          go_simp
          refine (HRE.out _ (below_trans' hb02 hHeld) s0 hal).mono ?_
          rintro e w6 ⟨Am, cm, rfl, hom, hb6⟩
          obtain ⟨adm, rfl, _, hcm⟩ := (own_rd hom).mark (j := s0) (by rw [markL_len]; exact hal)
          rw [mkd_markL_neg HRR.out] at hcm
          rw [markL_len]
          refine hK.out _ _ (below_trans' hHeld hb6) (fun hHeld => ?_)
          clear hK K
          (try simp only [Act.put, List.setIfInBounds_toArray, List.set_cons_zero, List.set_cons_succ])
          first | (refine hand_skip (i := 21) rfl (by kernel_rfl) (by kernel_rfl) (by kernel_rfl) (fun _ _ _ h => h) (by rfl) (by assumption) ?_) | (refine hand_run (i := 21) (v := ?_) rfl (by kernel_rfl) (by kernel_rfl) (by kernel_rfl) (fun _ _ _ h => h) (by rfl) ?_ (by assumption) ?_; rotate_left; (intro W hW; have f0 := cell_below hW c0; have f1 := cell_below hW c1; have f2 := cell_below hW c2; have f3 := cell_below hW c3; have f4 := cell_below hW c4; have f5 := cell_below hW hc; first | (go_simp; done) | (go_simp; with_reducible rfl)))
          (try simp only [Act.put, List.setIfInBounds_toArray, List.set_cons_zero, List.set_cons_succ])
          refine hand_one (i := 22) rfl (by kernel_rfl) (fun K hK => ?_)
          refine q_yes (by rfl) ?_
          go_simp
          skip
          refine hK.out _ _ (hHeld) (fun hHeld => ?_)
          clear hK K
          (try simp only [Act.put, List.setIfInBounds_toArray, List.set_cons_zero, List.set_cons_succ])
          first | (refine hand_skip (i := 23) rfl (by kernel_rfl) (by kernel_rfl) (by kernel_rfl) (fun _ _ _ h => h) (by rfl) (by assumption) ?_) | (refine hand_run (i := 23) (v := ?_) rfl (by kernel_rfl) (by kernel_rfl) (by kernel_rfl) (fun _ _ _ h => h) (by rfl) ?_ (by assumption) ?_; rotate_left; (intro W hW; have f0 := cell_below hW c0; have f1 := cell_below hW c1; have f2 := cell_below hW c2; have f3 := cell_below hW c3; have f4 := cell_below hW c4; have f5 := cell_below hW hc; first | (go_simp; done) | (go_simp; with_reducible rfl)))
          (try simp only [Act.put, List.setIfInBounds_toArray, List.set_cons_zero, List.set_cons_succ])
          first | (refine hand_skip (i := 24) rfl (by kernel_rfl) (by kernel_rfl) (by kernel_rfl) (fun _ _ _ h => h) (by rfl) (by assumption) ?_) | (refine hand_run (i := 24) (v := ?_) rfl (by kernel_rfl) (by kernel_rfl) (by kernel_rfl) (fun _ _ _ h => h) (by rfl) ?_ (by assumption) ?_; rotate_left; (intro W hW; have f0 := cell_below hW c0; have f1 := cell_below hW c1; have f2 := cell_below hW c2; have f3 := cell_below hW c3; have f4 := cell_below hW c4; have f5 := cell_below hW hc; first | (go_simp; done) | (go_simp; with_reducible rfl)))
          (try simp only [Act.put, List.setIfInBounds_toArray, List.set_cons_zero, List.set_cons_succ])
          first | (refine hand_skip (i := 25) rfl (by kernel_rfl) (by kernel_rfl) (by kernel_rfl) (fun _ _ _ h => h) (by rfl) (by assumption) ?_) | (refine hand_run (i := 25) (v := ?_) rfl (by kernel_rfl) (by kernel_rfl) (by kernel_rfl) (fun _ _ _ h => h) (by rfl) ?_ (by assumption) ?_; rotate_left; (intro W hW; have f0 := cell_below hW c0; have f1 := cell_below hW c1; have f2 := cell_below hW c2; have f3 := cell_below hW c3; have f4 := cell_below hW c4; have f5 := cell_below hW hc; first | (go_simp; done) | (go_simp; with_reducible rfl)))
          (try simp only [Act.put, List.setIfInBounds_toArray, List.set_cons_zero, List.set_cons_succ])
          first | (refine hand_skip (i := 26) rfl (by kernel_rfl) (by kernel_rfl) (by kernel_rfl) (fun _ _ _ h => h) (by rfl) (by assumption) ?_) | (refine hand_run (i := 26) (v := ?_) rfl (by kernel_rfl) (by kernel_rfl) (by kernel_rfl) (fun _ _ _ h => h) (by rfl) ?_ (by assumption) ?_; rotate_left; (intro W hW; have f0 := cell_below hW c0; have f1 := cell_below hW c1; have f2 := cell_below hW c2; have f3 := cell_below hW c3; have f4 := cell_below hW c4; have f5 := cell_below hW hc; first | (go_simp; done) | (go_simp; with_reducible rfl)))
          (try simp only [Act.put, List.setIfInBounds_toArray, List.set_cons_zero, List.set_cons_succ])
          refine hand_one (i := 27) rfl (by kernel_rfl) (fun K hK => ?_)
          refine q_yes (by rfl) ?_
          go_simp
          refine (HSM.out _ (below_trans' hb02 hHeld)).mono ?_
          rintro e w7 ⟨rfl, hb7⟩
          refine hK.out _ _ (below_trans' hHeld hb7) (fun hHeld => ?_)
          clear hK K
          (try simp only [Act.put, List.setIfInBounds_toArray, List.set_cons_zero, List.set_cons_succ])
          first | (refine hand_skip (i := 28) rfl (by kernel_rfl) (by kernel_rfl) (by kernel_rfl) (fun _ _ _ h => h) (by rfl) (by assumption) ?_) | (refine hand_run (i := 28) (v := ?_) rfl (by kernel_rfl) (by kernel_rfl) (by kernel_rfl) (fun _ _ _ h => h) (by rfl) ?_ (by assumption) ?_; rotate_left; (intro W hW; have f0 := cell_below hW c0; have f1 := cell_below hW c1; have f2 := cell_below hW c2; have f3 := cell_below hW c3; have f4 := cell_below hW c4; have f5 := cell_below hW hc; first | (go_simp; done) | (go_simp; with_reducible rfl)))
          (try simp only [Act.put, List.setIfInBounds_toArray, List.set_cons_zero, List.set_cons_succ])
          first | (refine hand_skip (i := 29) rfl (by kernel_rfl) (by kernel_rfl) (by kernel_rfl) (fun _ _ _ h => h) (by rfl) (by assumption) ?_) | (refine hand_run (i := 29) (v := ?_) rfl (by kernel_rfl) (by kernel_rfl) (by kernel_rfl) (fun _ _ _ h => h) (by rfl) ?_ (by assumption) ?_; rotate_left; (intro W hW; have f0 := cell_below hW c0; have f1 := cell_below hW c1; have f2 := cell_below hW c2; have f3 := cell_below hW c3; have f4 := cell_below hW c4; have f5 := cell_below hW hc; first | (go_simp; done) | (go_simp; with_reducible rfl)))
          (try simp only [Act.put, List.setIfInBounds_toArray, List.set_cons_zero, List.set_cons_succ])
          refine wpAnyH_done (by kernel_rfl) ?_ _
          have hbw := below_trans' hb02 hHeld
          have hbx7 := hbx2.to hHeld
          clear c0 c1 c2 c3 c4 hc hcm hom hHeld
          obtain ⟨q1, q3, c0, c1, c2, c3, c4⟩ := id hbx7
          go_wp2_with fail
          refine (HUS.out _ hbw).mono ?_
          rintro e w8 ⟨Au, cu, rfl, hou, hb8'⟩
          rw [markL_len] at hou ⊢
          have hru := own_rd hou
          have hbx8 := hbx7.to hb8'
          clear c0 c1 c2 c3 c4 q1 q3 hou hbx7
          go_wp2_with fail
          go_loopg [8] k.procs.length (fun l i wr => ∃ p : Nat, p ≤ k.procs.length ∧ l = k.procs.length - p ∧ i = .int .i64 p ∧ (∀ q, q < p → UsedP k q → ¬ OpsP k 4 q (mainN k)) ∧ Below w8.heap.size w8 wr)
          case atStart => exact ⟨0, by omega, by omega, rfl, fun q hq => by omega, Below.refl _ _⟩
          case round =>
            obtain ⟨p, hp, rfl, rfl, hall, hb⟩ := hrel
            have HALL := Lib.hid hall
            clear hall
            have hbxr := hbx8.to hb
            obtain ⟨q1, q3, c0, c1, c2, c3, c4⟩ := id hbxr
            by_cases hlt : p < k.procs.length
            · obtain ⟨adu, rfl, _, hcu⟩ := (hru.below hb).mark (j := p) (by rw [markL_len]; exact hlt)
              have y3 : (0 : Int) ≤ (p : Int) := by omega
              have y4 : (p : Int) < (k.procs.length : Int) := by omega
              by_cases hus : UsedP k p
              · rw [mkd_markL_pos hlt hus] at hcu
                have HMEM := Lib.hid (show mainN k ∈ listN k.procs.length (OpsP k 4 p) ↔ OpsP k 4 p (mainN k) from by rw [mem_listN]; exact ⟨fun h => h.2, fun h => ⟨hml, h⟩⟩)
                have hnl := listN_len k.procs.length (OpsP k 4 p)
                have HUS1 := Lib.hid hus
                clear hus
                have HOPP := Lib.hid (HOP.out _ q1 p hlt)
                generalize listN k.procs.length (OpsP k 4 p) = ns at *
                go_wp2_with fail
                refine HOPP.out.mono ?_
                rintro e w9 ⟨An, cn, rfl, hon, hb9⟩
                have HH := Lib.hid (l09Has_any An cn ns (mainN k) w9 (own_rd hon) (by omega))
                go_wp2_with fail
                refine HH.out.mono ?_
                rintro e w10 ⟨rfl, hb10⟩
                by_cases he : mainN k ∈ ns
                · have ed : decide (mainN k ∈ ns) = true := by simpa using he
                  rw [ed]
                  have HF := Lib.hid (singB_no fun h => (HSI.out.1 h).2.2.2.2 p HUS1.out (HMEM.out.1 he))
                  clear he ed
                  go_wp2_with fail
                  go_ret
                  exact ⟨ret_bool HF.out.symm, below_trans' (below_trans' q1 hb9) hb10⟩
                · have ed : decide (mainN k ∈ ns) = false := by simpa using he
                  rw [ed]
                  have HN := Lib.hid (fun h => he (HMEM.out.2 h))
                  clear he ed
                  go_wp2_with fail
                  go_roundg (k.procs.length - (p + 1))
                  case measure => omega
                  case rel =>
                    refine ⟨p + 1, by omega, rfl, by go_num, fun q hq hu => ?_, below_trans' (below_trans' hb hb9) hb10⟩
                    rcases Nat.lt_or_ge q p with h4 | h4
                    · exact HALL.out q h4 hu
                    · have e : q = p := by omega
                      subst e
                      exact HN.out
              · rw [mkd_markL_neg hus] at hcu
                have HUS1 := Lib.hid hus
                clear hus
                go_wp2_with fail
                go_roundg (k.procs.length - (p + 1))
                case measure => omega
                case rel =>
                  refine ⟨p + 1, by omega, rfl, by go_num, fun q hq hu => ?_, hb⟩
                  rcases Nat.lt_or_ge q p with h4 | h4
                  · exact HALL.out q h4 hu
                  · have e : q = p := by omega
                    subst e
                    exact absurd hu HUS1.out
            · obtain rfl : p = k.procs.length := by omega
              have HF := Lib.hid (singB_yes (HSI.out.2 ⟨HS1.out, HPM.out, HRR.out, HNIL.out, fun q hu => HALL.out q (HUL.out q hu) hu⟩))
              go_wp2_with fail
              go_ret
              exact ⟨ret_bool HF.out.symm, q1⟩
        · have HF := Lib.hid (singB_no fun h => hsm (HSI.out.1 h).2.2.2.1)
          have HSM := HSMx.out
          rw [nilB_no hsm] at HSM
          have HSM := Lib.hid HSM
          clear hsm
          refine wp_region_held_drew (S := fun w' => Below w2.heap.size w2 w') (by kernel_rfl) ((Below.refl _ _).drew) (fun hHeld => ?_)
          first | (refine hand_skip (i := 0) rfl (by kernel_rfl) (by kernel_rfl) (by kernel_rfl) (fun _ _ _ h => h) (by rfl) (by assumption) ?_) | (refine hand_run (i := 0) (v := ?_) rfl (by kernel_rfl) (by kernel_rfl) (by kernel_rfl) (fun _ _ _ h => h) (by rfl) ?_ (by assumption) ?_; rotate_left; (intro W hW; have f0 := cell_below hW c0; have f1 := cell_below hW c1; have f2 := cell_below hW c2; have f3 := cell_below hW c3; have f4 := cell_below hW c4; have f5 := cell_below hW hc; first | (go_simp; done) | (go_simp; with_reducible rfl)))
          (try simp only [Act.put, List.setIfInBounds_toArray, List.set_cons_zero, List.set_cons_succ])
          first | (refine hand_skip (i := 1) rfl (by kernel_rfl) (by kernel_rfl) (by kernel_rfl) (fun _ _ _ h => h) (by rfl) (by assumption) ?_) | (refine hand_run (i := 1) (v := ?_) rfl (by kernel_rfl) (by kernel_rfl) (by kernel_rfl) (fun _ _ _ h => h) (by rfl) ?_ (by assumption) ?_; rotate_left; (intro W hW; have f0 := cell_below hW c0; have f1 := cell_below hW c1; have f2 := cell_below hW c2; have f3 := cell_below hW c3; have f4 := cell_below hW c4; have f5 := cell_below hW hc; first | (go_simp; done) | (go_simp; with_reducible rfl)))
          (try simp only [Act.put, List.setIfInBounds_toArray, List.set_cons_zero, List.set_cons_succ])
          first | (refine hand_skip (i := 2) rfl (by kernel_rfl) (by kernel_rfl) (by kernel_rfl) (fun _ _ _ h => h) (by rfl) (by assumption) ?_) | (refine hand_run (i := 2) (v := ?_) rfl (by kernel_rfl) (by kernel_rfl) (by kernel_rfl) (fun _ _ _ h => h) (by rfl) ?_ (by assumption) ?_; rotate_left; (intro W hW; have f0 := cell_below hW c0; have f1 := cell_below hW c1; have f2 := cell_below hW c2; have f3 := cell_below hW c3; have f4 := cell_below hW c4; have f5 := cell_below hW hc; first | (go_simp; done) | (go_simp; with_reducible rfl)))
          (try simp only [Act.put, List.setIfInBounds_toArray, List.set_cons_zero, List.set_cons_succ])
          first | (refine hand_skip (i := 3) rfl (by kernel_rfl) (by kernel_rfl) (by kernel_rfl) (fun _ _ _ h => h) (by rfl) (by assumption) ?_) | (refine hand_run (i := 3) (v := ?_) rfl (by kernel_rfl) (by kernel_rfl) (by kernel_rfl) (fun _ _ _ h => h) (by rfl) ?_ (by assumption) ?_; rotate_left; (intro W hW; have f0 := cell_below hW c0; have f1 := cell_below hW c1; have f2 := cell_below hW c2; have f3 := cell_below hW c3; have f4 := cell_below hW c4; have f5 := cell_below hW hc; first | (go_simp; done) | (go_simp; with_reducible rfl)))
          (try simp only [Act.put, List.setIfInBounds_toArray, List.set_cons_zero, List.set_cons_succ])
          first | (refine hand_skip (i := 4) rfl (by kernel_rfl) (by kernel_rfl) (by kernel_rfl) (fun _ _ _ h => h) (by rfl) (by assumption) ?_) | (refine hand_run (i := 4) (v := ?_) rfl (by kernel_rfl) (by kernel_rfl) (by kernel_rfl) (fun _ _ _ h => h) (by rfl) ?_ (by assumption) ?_; rotate_left; (intro W hW; have f0 := cell_below hW c0; have f1 := cell_below hW c1; have f2 := cell_below hW c2; have f3 := cell_below hW c3; have f4 := cell_below hW c4; have f5 := cell_below hW hc; first | (go_simp; done) | (go_simp; with_reducible rfl)))
          (try simp only [Act.put, List.setIfInBounds_toArray, List.set_cons_zero, List.set_cons_succ])
          first | (refine hand_skip (i := 5) rfl (by kernel_rfl) (by kernel_rfl) (by kernel_rfl) (fun _ _ _ h => h) (by rfl) (by assumption) ?_) | (refine hand_run (i := 5) (v := ?_) rfl (by kernel_rfl) (by kernel_rfl) (by kernel_rfl) (fun _ _ _ h => h) (by rfl) ?_ (by assumption) ?_; rotate_left; (intro W hW; have f0 := cell_below hW c0; have f1 := cell_below hW c1; have f2 := cell_below hW c2; have f3 := cell_below hW c3; have f4 := cell_below hW c4; have f5 := cell_below hW hc; first | (go_simp; done) | (go_simp; with_reducible rfl)))
          (try simp only [Act.put, List.setIfInBounds_toArray, List.set_cons_zero, List.set_cons_succ])
          first | (refine hand_skip (i := 6) rfl (by kernel_rfl) (by kernel_rfl) (by kernel_rfl) (fun _ _ _ h => h) (by rfl) (by assumption) ?_) | (refine hand_run (i := 6) (v := ?_) rfl (by kernel_rfl) (by kernel_rfl) (by kernel_rfl) (fun _ _ _ h => h) (by rfl) ?_ (by assumption) ?_; rotate_left; (intro W hW; have f0 := cell_below hW c0; have f1 := cell_below hW c1; have f2 := cell_below hW c2; have f3 := cell_below hW c3; have f4 := cell_below hW c4; have f5 := cell_below hW hc; first | (go_simp; done) | (go_simp; with_reducible rfl)))
          (try simp only [Act.put, List.setIfInBounds_toArray, List.set_cons_zero, List.set_cons_succ])
          first | (refine hand_skip (i := 7) rfl (by kernel_rfl) (by kernel_rfl) (by kernel_rfl) (fun _ _ _ h => h) (by rfl) (by assumption) ?_) | (refine hand_run (i := 7) (v := ?_) rfl (by kernel_rfl) (by kernel_rfl) (by kernel_rfl) (fun _ _ _ h => h) (by rfl) ?_ (by assumption) ?_; rotate_left; (intro W hW; have f0 := cell_below hW c0; have f1 := cell_below hW c1; have f2 := cell_below hW c2; have f3 := cell_below hW c3; have f4 := cell_below hW c4; have f5 := cell_below hW hc; first | (go_simp; done) | (go_simp; with_reducible rfl)))
          (try simp only [Act.put, List.setIfInBounds_toArray, List.set_cons_zero, List.set_cons_succ])
          first | (refine hand_skip (i := 9) rfl (by kernel_rfl) (by kernel_rfl) (by kernel_rfl) (fun _ _ _ h => h) (by rfl) (by assumption) ?_) | (refine hand_run (i := 9) (v := ?_) rfl (by kernel_rfl) (by kernel_rfl) (by kernel_rfl) (fun _ _ _ h => h) (by rfl) ?_ (by assumption) ?_; rotate_left; (intro W hW; have f0 := cell_below hW c0; have f1 := cell_below hW c1; have f2 := cell_below hW c2; have f3 := cell_below hW c3; have f4 := cell_below hW c4; have f5 := cell_below hW hc; first | (go_simp; done) | (go_simp; with_reducible rfl)))
          (try simp only [Act.put, List.setIfInBounds_toArray, List.set_cons_zero, List.set_cons_succ])
          refine hand_one (i := 8) rfl (by kernel_rfl) (fun K hK => ?_)
          refine q_yes (by rfl) ?_
          go_simp
          refine (HPR.out _ (below_trans' hb02 hHeld) s0 hal).mono ?_
          rintro e w5 ⟨rfl, hb5⟩
          refine hK.out _ _ (below_trans' hHeld hb5) (fun hHeld => ?_)
          clear hK K
          (try simp only [Act.put, List.setIfInBounds_toArray, List.set_cons_zero, List.set_cons_succ])
          first | (refine hand_skip (i := 10) rfl (by kernel_rfl) (by kernel_rfl) (by kernel_rfl) (fun _ _ _ h => h) (by rfl) (by assumption) ?_) | (refine hand_run (i := 10) (v := ?_) rfl (by kernel_rfl) (by kernel_rfl) (by kernel_rfl) (fun _ _ _ h => h) (by rfl) ?_ (by assumption) ?_; rotate_left; (intro W hW; have f0 := cell_below hW c0; have f1 := cell_below hW c1; have f2 := cell_below hW c2; have f3 := cell_below hW c3; have f4 := cell_below hW c4; have f5 := cell_below hW hc; first | (go_simp; done) | (go_simp; with_reducible rfl)))
          (try simp only [Act.put, List.setIfInBounds_toArray, List.set_cons_zero, List.set_cons_succ])
          first | (refine hand_skip (i := 11) rfl (by kernel_rfl) (by kernel_rfl) (by kernel_rfl) (fun _ _ _ h => h) (by rfl) (by assumption) ?_) | (refine hand_run (i := 11) (v := ?_) rfl (by kernel_rfl) (by kernel_rfl) (by kernel_rfl) (fun _ _ _ h => h) (by rfl) ?_ (by assumption) ?_; rotate_left; (intro W hW; have f0 := cell_below hW c0; have f1 := cell_below hW c1; have f2 := cell_below hW c2; have f3 := cell_below hW c3; have f4 := cell_below hW c4; have f5 := cell_below hW hc; first | (go_simp; done) | (go_simp; with_reducible rfl)))
          (try simp only [Act.put, List.setIfInBounds_toArray, List.set_cons_zero, List.set_cons_succ])
          first | (refine hand_skip (i := 12) rfl (by kernel_rfl) (by kernel_rfl) (by kernel_rfl) (fun _ _ _ h => h) (by rfl) (by assumption) ?_) | (refine hand_run (i := 12) (v := ?_) rfl (by kernel_rfl) (by kernel_rfl) (by kernel_rfl) (fun _ _ _ h => h) (by rfl) ?_ (by assumption) ?_; rotate_left; (intro W hW; have f0 := cell_below hW c0; have f1 := cell_below hW c1; have f2 := cell_below hW c2; have f3 := cell_below hW c3; have f4 := cell_below hW c4; have f5 := cell_below hW hc; first | (go_simp; done) | (go_simp; with_reducible rfl)))
          (try simp only [Act.put, List.setIfInBounds_toArray, List.set_cons_zero, List.set_cons_succ])
          first | (refine hand_skip (i := 13) rfl (by kernel_rfl) (by kernel_rfl) (by kernel_rfl) (fun _ _ _ h => h) (by rfl) (by assumption) ?_) | (refine hand_run (i := 13) (v := ?_) rfl (by kernel_rfl) (by kernel_rfl) (by kernel_rfl) (fun _ _ _ h => h) (by rfl) ?_ (by assumption) ?_; rotate_left; (intro W hW; have f0 := cell_below hW c0; have f1 := cell_below hW c1; have f2 := cell_below hW c2; have f3 := cell_below hW c3; have f4 := cell_below hW c4; have f5 := cell_below hW hc; first | (go_simp; done) | (go_simp; with_reducible rfl)))
          (try simp only [Act.put, List.setIfInBounds_toArray, List.set_cons_zero, List.set_cons_succ])
          first | (refine hand_skip (i := 14) rfl (by kernel_rfl) (by kernel_rfl) (by kernel_rfl) (fun _ _ _ h => h) (by rfl) (by assumption) ?_) | (refine hand_run (i := 14) (v := ?_) rfl (by kernel_rfl) (by kernel_rfl) (by kernel_rfl) (fun _ _ _ h => h) (by rfl) ?_ (by assumption) ?_; rotate_left; (intro W hW; have f0 := cell_below hW c0; have f1 := cell_below hW c1; have f2 := cell_below hW c2; have f3 := cell_below hW c3; have f4 := cell_below hW c4; have f5 := cell_below hW hc; first | (go_simp; done) | (go_simp; with_reducible rfl)))
          (try simp only [Act.put, List.setIfInBounds_toArray, List.set_cons_zero, List.set_cons_succ])
          first | (refine hand_skip (i := 15) rfl (by kernel_rfl) (by kernel_rfl) (by kernel_rfl) (fun _ _ _ h => h) (by rfl) (by assumption) ?_) | (refine hand_run (i := 15) (v := ?_) rfl (by kernel_rfl) (by kernel_rfl) (by kernel_rfl) (fun _ _ _ h => h) (by rfl) ?_ (by assumption) ?_; rotate_left; (intro W hW; have f0 := cell_below hW c0; have f1 := cell_below hW c1; have f2 := cell_below hW c2; have f3 := cell_below hW c3; have f4 := cell_below hW c4; have f5 := cell_below hW hc; first | (go_simp; done) | (go_simp; with_reducible rfl)))
          (try simp only [Act.put, List.setIfInBounds_toArray, List.set_cons_zero, List.set_cons_succ])
          first | (refine hand_skip (i := 16) rfl (by kernel_rfl) (by kernel_rfl) (by kernel_rfl) (fun _ _ _ h => h) (by rfl) (by assumption) ?_) | (refine hand_run (i := 16) (v := ?_) rfl (by kernel_rfl) (by kernel_rfl) (by kernel_rfl) (fun _ _ _ h => h) (by rfl) ?_ (by assumption) ?_; rotate_left; (intro W hW; have f0 := cell_below hW c0; have f1 := cell_below hW c1; have f2 := cell_below hW c2; have f3 := cell_below hW c3; have f4 := cell_below hW c4; have f5 := cell_below hW hc; first | (go_simp; done) | (go_simp; with_reducible rfl)))
          (try simp only [Act.put, List.setIfInBounds_toArray, List.set_cons_zero, List.set_cons_succ])
          first | (refine hand_skip (i := 18) rfl (by kernel_rfl) (by kernel_rfl) (by kernel_rfl) (fun _ _ _ h => h) (by rfl) (by assumption) ?_) | (refine hand_run (i := 18) (v := ?_) rfl (by kernel_rfl) (by kernel_rfl) (by kernel_rfl) (fun _ _ _ h => h) (by rfl) ?_ (by assumption) ?_; rotate_left; (intro W hW; have f0 := cell_below hW c0; have f1 := cell_below hW c1; have f2 := cell_below hW c2; have f3 := cell_below hW c3; have f4 := cell_below hW c4; have f5 := cell_below hW hc; first | (go_simp; done) | (go_simp; with_reducible rfl)))
          (try simp only [Act.put, List.setIfInBounds_toArray, List.set_cons_zero, List.set_cons_succ])
          first | (refine hand_skip (i := 19) rfl (by kernel_rfl) (by kernel_rfl) (by kernel_rfl) (fun _ _ _ h => h) (by rfl) (by assumption) ?_) | (refine hand_run (i := 19) (v := ?_) rfl (by kernel_rfl) (by kernel_rfl) (by kernel_rfl) (fun _ _ _ h => h) (by rfl) ?_ (by assumption) ?_; rotate_left; (intro W hW; have f0 := cell_below hW c0; have f1 := cell_below hW c1; have f2 := cell_below hW c2; have f3 := cell_below hW c3; have f4 := cell_below hW c4; have f5 := cell_below hW hc; first | (go_simp; done) | (go_simp; with_reducible rfl)))
          (try simp only [Act.put, List.setIfInBounds_toArray, List.set_cons_zero, List.set_cons_succ])
          first | (refine hand_skip (i := 20) rfl (by kernel_rfl) (by kernel_rfl) (by kernel_rfl) (fun _ _ _ h => h) (by rfl) (by assumption) ?_) | (refine hand_run (i := 20) (v := ?_) rfl (by kernel_rfl) (by kernel_rfl) (by kernel_rfl) (fun _ _ _ h => h) (by rfl) ?_ (by assumption) ?_; rotate_left; (intro W hW; have f0 := cell_below hW c0; have f1 := cell_below hW c1; have f2 := cell_below hW c2; have f3 := cell_below hW c3; have f4 := cell_below hW c4; have f5 := cell_below hW hc; first | (go_simp; done) | (go_simp; with_reducible rfl)))
          (try simp only [Act.put, List.setIfInBounds_toArray, List.set_cons_zero, List.set_cons_succ])
          refine hand_one (i := 17) rfl (by kernel_rfl) (fun K hK => ?_)
          refine q_yes (by rfl) ?_
          go_simp
          refine (HRE.out _ (below_trans' hb02 hHeld) s0 hal).mono ?_
          rintro e w6 ⟨Am, cm, rfl, hom, hb6⟩
          obtain ⟨adm, rfl, _, hcm⟩ := (own_rd hom).mark (j := s0) (by rw [markL_len]; exact hal)
          rw [mkd_markL_neg HRR.out] at hcm
          rw [markL_len]
          refine hK.out _ _ (below_trans' hHeld hb6) (fun hHeld => ?_)
          clear hK K
          (try simp only [Act.put, List.setIfInBounds_toArray, List.set_cons_zero, List.set_cons_succ])
          first | (refine hand_skip (i := 21) rfl (by kernel_rfl) (by kernel_rfl) (by kernel_rfl) (fun _ _ _ h => h) (by rfl) (by assumption) ?_) | (refine hand_run (i := 21) (v := ?_) rfl (by kernel_rfl) (by kernel_rfl) (by kernel_rfl) (fun _ _ _ h => h) (by rfl) ?_ (by assumption) ?_; rotate_left; (intro W hW; have f0 := cell_below hW c0; have f1 := cell_below hW c1; have f2 := cell_below hW c2; have f3 := cell_below hW c3; have f4 := cell_below hW c4; have f5 := cell_below hW hc; first | (go_simp; done) | (go_simp; with_reducible rfl)))
          (try simp only [Act.put, List.setIfInBounds_toArray, List.set_cons_zero, List.set_cons_succ])
          refine hand_one (i := 22) rfl (by kernel_rfl) (fun K hK => ?_)
          refine q_yes (by rfl) ?_
          go_simp
          skip
          refine hK.out _ _ (hHeld) (fun hHeld => ?_)
          clear hK K
          (try simp only [Act.put, List.setIfInBounds_toArray, List.set_cons_zero, List.set_cons_succ])
          first | (refine hand_skip (i := 23) rfl (by kernel_rfl) (by kernel_rfl) (by kernel_rfl) (fun _ _ _ h => h) (by rfl) (by assumption) ?_) | (refine hand_run (i := 23) (v := ?_) rfl (by kernel_rfl) (by kernel_rfl) (by kernel_rfl) (fun _ _ _ h => h) (by rfl) ?_ (by assumption) ?_; rotate_left; (intro W hW; have f0 := cell_below hW c0; have f1 := cell_below hW c1; have f2 := cell_below hW c2; have f3 := cell_below hW c3; have f4 := cell_below hW c4; have f5 := cell_below hW hc; first | (go_simp; done) | (go_simp; with_reducible rfl)))
          (try simp only [Act.put, List.setIfInBounds_toArray, List.set_cons_zero, List.set_cons_succ])
          first | (refine hand_skip (i := 24) rfl (by kernel_rfl) (by kernel_rfl) (by kernel_rfl) (fun _ _ _ h => h) (by rfl) (by assumption) ?_) | (refine hand_run (i := 24) (v := ?_) rfl (by kernel_rfl) (by kernel_rfl) (by kernel_rfl) (fun _ _ _ h => h) (by rfl) ?_ (by assumption) ?_; rotate_left; (intro W hW; have f0 := cell_below hW c0; have f1 := cell_below hW c1; have f2 := cell_below hW c2; have f3 := cell_below hW c3; have f4 := cell_below hW c4; have f5 := cell_below hW hc; first | (go_simp; done) | (go_simp; with_reducible rfl)))
          (try simp only [Act.put, List.setIfInBounds_toArray, List.set_cons_zero, List.set_cons_succ])
          first | (refine hand_skip (i := 25) rfl (by kernel_rfl) (by kernel_rfl) (by kernel_rfl) (fun _ _ _ h => h) (by rfl) (by assumption) ?_) | (refine hand_run (i := 25) (v := ?_) rfl (by kernel_rfl) (by kernel_rfl) (by kernel_rfl) (fun _ _ _ h => h) (by rfl) ?_ (by assumption) ?_; rotate_left; (intro W hW; have f0 := cell_below hW c0; have f1 := cell_below hW c1; have f2 := cell_below hW c2; have f3 := cell_below hW c3; have f4 := cell_below hW c4; have f5 := cell_below hW hc; first | (go_simp; done) | (go_simp; with_reducible rfl)))
          (try simp only [Act.put, List.setIfInBounds_toArray, List.set_cons_zero, List.set_cons_succ])
          first | (refine hand_skip (i := 26) rfl (by kernel_rfl) (by kernel_rfl) (by kernel_rfl) (fun _ _ _ h => h) (by rfl) (by assumption) ?_) | (refine hand_run (i := 26) (v := ?_) rfl (by kernel_rfl) (by kernel_rfl) (by kernel_rfl) (fun _ _ _ h => h) (by rfl) ?_ (by assumption) ?_; rotate_left; (intro W hW; have f0 := cell_below hW c0; have f1 := cell_below hW c1; have f2 := cell_below hW c2; have f3 := cell_below hW c3; have f4 := cell_below hW c4; have f5 := cell_below hW hc; first | (go_simp; done) | (go_simp; with_reducible rfl)))
          (try simp only [Act.put, List.setIfInBounds_toArray, List.set_cons_zero, List.set_cons_succ])
          refine hand_one (i := 27) rfl (by kernel_rfl) (fun K hK => ?_)
          refine q_yes (by rfl) ?_
          go_simp
          refine (HSM.out _ (below_trans' hb02 hHeld)).mono ?_
          rintro e w7 ⟨rfl, hb7⟩
          refine hK.out _ _ (below_trans' hHeld hb7) (fun hHeld => ?_)
          clear hK K
          (try simp only [Act.put, List.setIfInBounds_toArray, List.set_cons_zero, List.set_cons_succ])
          first | (refine hand_skip (i := 28) rfl (by kernel_rfl) (by kernel_rfl) (by kernel_rfl) (fun _ _ _ h => h) (by rfl) (by assumption) ?_) | (refine hand_run (i := 28) (v := ?_) rfl (by kernel_rfl) (by kernel_rfl) (by kernel_rfl) (fun _ _ _ h => h) (by rfl) ?_ (by assumption) ?_; rotate_left; (intro W hW; have f0 := cell_below hW c0; have f1 := cell_below hW c1; have f2 := cell_below hW c2; have f3 := cell_below hW c3; have f4 := cell_below hW c4; have f5 := cell_below hW hc; first | (go_simp; done) | (go_simp; with_reducible rfl)))
          (try simp only [Act.put, List.setIfInBounds_toArray, List.set_cons_zero, List.set_cons_succ])
          first | (refine hand_skip (i := 29) rfl (by kernel_rfl) (by kernel_rfl) (by kernel_rfl) (fun _ _ _ h => h) (by rfl) (by assumption) ?_) | (refine hand_run (i := 29) (v := ?_) rfl (by kernel_rfl) (by kernel_rfl) (by kernel_rfl) (fun _ _ _ h => h) (by rfl) ?_ (by assumption) ?_; rotate_left; (intro W hW; have f0 := cell_below hW c0; have f1 := cell_below hW c1; have f2 := cell_below hW c2; have f3 := cell_below hW c3; have f4 := cell_below hW c4; have f5 := cell_below hW hc; first | (go_simp; done) | (go_simp; with_reducible rfl)))
          (try simp only [Act.put, List.setIfInBounds_toArray, List.set_cons_zero, List.set_cons_succ])
          refine wpAnyH_done (by kernel_rfl) ?_ _
          go_wp2_with fail
          go_ret
          exact ⟨ret_bool HF.out.symm, below_trans' hb02 hHeld⟩
    · have HPM := Lib.hid hpm
      have HF := Lib.hid (singB_no fun h => HPM.out (HSI.out.1 h).2.1)
      have hq1 : ((procN k s0 : Int) != (mainN k : Int)) = true := by simp; omega
      clear hpm
      go_wp2_with fail
      refine wp_region_held_drew (S := fun w' => Below w2.heap.size w2 w') (by kernel_rfl) ((Below.refl _ _).drew) (fun hHeld => ?_)
      first | (refine hand_skip (i := 0) rfl (by kernel_rfl) (by kernel_rfl) (by kernel_rfl) (fun _ _ _ h => h) (by rfl) (by assumption) ?_) | (refine hand_run (i := 0) (v := ?_) rfl (by kernel_rfl) (by kernel_rfl) (by kernel_rfl) (fun _ _ _ h => h) (by rfl) ?_ (by assumption) ?_; rotate_left; (intro W hW; have f0 := cell_below hW c0; have f1 := cell_below hW c1; have f2 := cell_below hW c2; have f3 := cell_below hW c3; have f4 := cell_below hW c4; have f5 := cell_below hW hc; first | (go_simp; done) | (go_simp; with_reducible rfl)))
      (try simp only [Act.put, List.setIfInBounds_toArray, List.set_cons_zero, List.set_cons_succ])
      first | (refine hand_skip (i := 1) rfl (by kernel_rfl) (by kernel_rfl) (by kernel_rfl) (fun _ _ _ h => h) (by rfl) (by assumption) ?_) | (refine hand_run (i := 1) (v := ?_) rfl (by kernel_rfl) (by kernel_rfl) (by kernel_rfl) (fun _ _ _ h => h) (by rfl) ?_ (by assumption) ?_; rotate_left; (intro W hW; have f0 := cell_below hW c0; have f1 := cell_below hW c1; have f2 := cell_below hW c2; have f3 := cell_below hW c3; have f4 := cell_below hW c4; have f5 := cell_below hW hc; first | (go_simp; done) | (go_simp; with_reducible rfl)))
      (try simp only [Act.put, List.setIfInBounds_toArray, List.set_cons_zero, List.set_cons_succ])
      first | (refine hand_skip (i := 2) rfl (by kernel_rfl) (by kernel_rfl) (by kernel_rfl) (fun _ _ _ h => h) (by rfl) (by assumption) ?_) | (refine hand_run (i := 2) (v := ?_) rfl (by kernel_rfl) (by kernel_rfl) (by kernel_rfl) (fun _ _ _ h => h) (by rfl) ?_ (by assumption) ?_; rotate_left; (intro W hW; have f0 := cell_below hW c0; have f1 := cell_below hW c1; have f2 := cell_below hW c2; have f3 := cell_below hW c3; have f4 := cell_below hW c4; have f5 := cell_below hW hc; first | (go_simp; done) | (go_simp; with_reducible rfl)))
      (try simp only [Act.put, List.setIfInBounds_toArray, List.set_cons_zero, List.set_cons_succ])
      first | (refine hand_skip (i := 3) rfl (by kernel_rfl) (by kernel_rfl) (by kernel_rfl) (fun _ _ _ h => h) (by rfl) (by assumption) ?_) | (refine hand_run (i := 3) (v := ?_) rfl (by kernel_rfl) (by kernel_rfl) (by kernel_rfl) (fun _ _ _ h => h) (by rfl) ?_ (by assumption) ?_; rotate_left; (intro W hW; have f0 := cell_below hW c0; have f1 := cell_below hW c1; have f2 := cell_below hW c2; have f3 := cell_below hW c3; have f4 := cell_below hW c4; have f5 := cell_below hW hc; first | (go_simp; done) | (go_simp; with_reducible rfl)))
      (try simp only [Act.put, List.setIfInBounds_toArray, List.set_cons_zero, List.set_cons_succ])
      first | (refine hand_skip (i := 4) rfl (by kernel_rfl) (by kernel_rfl) (by kernel_rfl) (fun _ _ _ h => h) (by rfl) (by assumption) ?_) | (refine hand_run (i := 4) (v := ?_) rfl (by kernel_rfl) (by kernel_rfl) (by kernel_rfl) (fun _ _ _ h => h) (by rfl) ?_ (by assumption) ?_; rotate_left; (intro W hW; have f0 := cell_below hW c0; have f1 := cell_below hW c1; have f2 := cell_below hW c2; have f3 := cell_below hW c3; have f4 := cell_below hW c4; have f5 := cell_below hW hc; first | (go_simp; done) | (go_simp; with_reducible rfl)))
      (try simp only [Act.put, List.setIfInBounds_toArray, List.set_cons_zero, List.set_cons_succ])
      first | (refine hand_skip (i := 5) rfl (by kernel_rfl) (by kernel_rfl) (by kernel_rfl) (fun _ _ _ h => h) (by rfl) (by assumption) ?_) | (refine hand_run (i := 5) (v := ?_) rfl (by kernel_rfl) (by kernel_rfl) (by kernel_rfl) (fun _ _ _ h => h) (by rfl) ?_ (by assumption) ?_; rotate_left; (intro W hW; have f0 := cell_below hW c0; have f1 := cell_below hW c1; have f2 := cell_below hW c2; have f3 := cell_below hW c3; have f4 := cell_below hW c4; have f5 := cell_below hW hc; first | (go_simp; done) | (go_simp; with_reducible rfl)))
      (try simp only [Act.put, List.setIfInBounds_toArray, List.set_cons_zero, List.set_cons_succ])
      first | (refine hand_skip (i := 6) rfl (by kernel_rfl) (by kernel_rfl) (by kernel_rfl) (fun _ _ _ h => h) (by rfl) (by assumption) ?_) | (refine hand_run (i := 6) (v := ?_) rfl (by kernel_rfl) (by kernel_rfl) (by kernel_rfl) (fun _ _ _ h => h) (by rfl) ?_ (by assumption) ?_; rotate_left; (intro W hW; have f0 := cell_below hW c0; have f1 := cell_below hW c1; have f2 := cell_below hW c2; have f3 := cell_below hW c3; have f4 := cell_below hW c4; have f5 := cell_below hW hc; first | (go_simp; done) | (go_simp; with_reducible rfl)))
      (try simp only [Act.put, List.setIfInBounds_toArray, List.set_cons_zero, List.set_cons_succ])
      first | (refine hand_skip (i := 7) rfl (by kernel_rfl) (by kernel_rfl) (by kernel_rfl) (fun _ _ _ h => h) (by rfl) (by assumption) ?_) | (refine hand_run (i := 7) (v := ?_) rfl (by kernel_rfl) (by kernel_rfl) (by kernel_rfl) (fun _ _ _ h => h) (by rfl) ?_ (by assumption) ?_; rotate_left; (intro W hW; have f0 := cell_below hW c0; have f1 := cell_below hW c1; have f2 := cell_below hW c2; have f3 := cell_below hW c3; have f4 := cell_below hW c4; have f5 := cell_below hW hc; first | (go_simp; done) | (go_simp; with_reducible rfl)))
      (try simp only [Act.put, List.setIfInBounds_toArray, List.set_cons_zero, List.set_cons_succ])
      first | (refine hand_skip (i := 9) rfl (by kernel_rfl) (by kernel_rfl) (by kernel_rfl) (fun _ _ _ h => h) (by rfl) (by assumption) ?_) | (refine hand_run (i := 9) (v := ?_) rfl (by kernel_rfl) (by kernel_rfl) (by kernel_rfl) (fun _ _ _ h => h) (by rfl) ?_ (by assumption) ?_; rotate_left; (intro W hW; have f0 := cell_below hW c0; have f1 := cell_below hW c1; have f2 := cell_below hW c2; have f3 := cell_below hW c3; have f4 := cell_below hW c4; have f5 := cell_below hW hc; first | (go_simp; done) | (go_simp; with_reducible rfl)))
      (try simp only [Act.put, List.setIfInBounds_toArray, List.set_cons_zero, List.set_cons_succ])
      refine hand_one (i := 8) rfl (by kernel_rfl) (fun K hK => ?_)
      refine q_yes (by rfl) ?_
      go_simp
      refine (HPR.out _ (below_trans' hb02 hHeld) s0 hal).mono ?_
      rintro e w5 ⟨rfl, hb5⟩
      refine hK.out _ _ (below_trans' hHeld hb5) (fun hHeld => ?_)
      clear hK K
      (try simp only [Act.put, List.setIfInBounds_toArray, List.set_cons_zero, List.set_cons_succ])
      first | (refine hand_skip (i := 10) rfl (by kernel_rfl) (by kernel_rfl) (by kernel_rfl) (fun _ _ _ h => h) (by rfl) (by assumption) ?_) | (refine hand_run (i := 10) (v := ?_) rfl (by kernel_rfl) (by kernel_rfl) (by kernel_rfl) (fun _ _ _ h => h) (by rfl) ?_ (by assumption) ?_; rotate_left; (intro W hW; have f0 := cell_below hW c0; have f1 := cell_below hW c1; have f2 := cell_below hW c2; have f3 := cell_below hW c3; have f4 := cell_below hW c4; have f5 := cell_below hW hc; first | (go_simp; done) | (go_simp; with_reducible rfl)))
      (try simp only [Act.put, List.setIfInBounds_toArray, List.set_cons_zero, List.set_cons_succ])
      first | (refine hand_skip (i := 11) rfl (by kernel_rfl) (by kernel_rfl) (by kernel_rfl) (fun _ _ _ h => h) (by rfl) (by assumption) ?_) | (refine hand_run (i := 11) (v := ?_) rfl (by kernel_rfl) (by kernel_rfl) (by kernel_rfl) (fun _ _ _ h => h) (by rfl) ?_ (by assumption) ?_; rotate_left; (intro W hW; have f0 := cell_below hW c0; have f1 := cell_below hW c1; have f2 := cell_below hW c2; have f3 := cell_below hW c3; have f4 := cell_below hW c4; have f5 := cell_below hW hc; first | (go_simp; done) | (go_simp; with_reducible rfl)))
      (try simp only [Act.put, List.setIfInBounds_toArray, List.set_cons_zero, List.set_cons_succ])
      first | (refine hand_skip (i := 12) rfl (by kernel_rfl) (by kernel_rfl) (by kernel_rfl) (fun _ _ _ h => h) (by rfl) (by assumption) ?_) | (refine hand_run (i := 12) (v := ?_) rfl (by kernel_rfl) (by kernel_rfl) (by kernel_rfl) (fun _ _ _ h => h) (by rfl) ?_ (by assumption) ?_; rotate_left; (intro W hW; have f0 := cell_below hW c0; have f1 := cell_below hW c1; have f2 := cell_below hW c2; have f3 := cell_below hW c3; have f4 := cell_below hW c4; have f5 := cell_below hW hc; first | (go_simp; done) | (go_simp; with_reducible rfl)))
      (try simp only [Act.put, List.setIfInBounds_toArray, List.set_cons_zero, List.set_cons_succ])
      first | (refine hand_skip (i := 13) rfl (by kernel_rfl) (by kernel_rfl) (by kernel_rfl) (fun _ _ _ h => h) (by rfl) (by assumption) ?_) | (refine hand_run (i := 13) (v := ?_) rfl (by kernel_rfl) (by kernel_rfl) (by kernel_rfl) (fun _ _ _ h => h) (by rfl) ?_ (by assumption) ?_; rotate_left; (intro W hW; have f0 := cell_below hW c0; have f1 := cell_below hW c1; have f2 := cell_below hW c2; have f3 := cell_below hW c3; have f4 := cell_below hW c4; have f5 := cell_below hW hc; first | (go_simp; done) | (go_simp; with_reducible rfl)))
      (try simp only [Act.put, List.setIfInBounds_toArray, List.set_cons_zero, List.set_cons_succ])
      first | (refine hand_skip (i := 14) rfl (by kernel_rfl) (by kernel_rfl) (by kernel_rfl) (fun _ _ _ h => h) (by rfl) (by assumption) ?_) | (refine hand_run (i := 14) (v := ?_) rfl (by kernel_rfl) (by kernel_rfl) (by kernel_rfl) (fun _ _ _ h => h) (by rfl) ?_ (by assumption) ?_; rotate_left; (intro W hW; have f0 := cell_below hW c0; have f1 := cell_below hW c1; have f2 := cell_below hW c2; have f3 := cell_below hW c3; have f4 := cell_below hW c4; have f5 := cell_below hW hc; first | (go_simp; done) | (go_simp; with_reducible rfl)))
      (try simp only [Act.put, List.setIfInBounds_toArray, List.set_cons_zero, List.set_cons_succ])
      first | (refine hand_skip (i := 15) rfl (by kernel_rfl) (by kernel_rfl) (by kernel_rfl) (fun _ _ _ h => h) (by rfl) (by assumption) ?_) | (refine hand_run (i := 15) (v := ?_) rfl (by kernel_rfl) (by kernel_rfl) (by kernel_rfl) (fun _ _ _ h => h) (by rfl) ?_ (by assumption) ?_; rotate_left; (intro W hW; have f0 := cell_below hW c0; have f1 := cell_below hW c1; have f2 := cell_below hW c2; have f3 := cell_below hW c3; have f4 := cell_below hW c4; have f5 := cell_below hW hc; first | (go_simp; done) | (go_simp; with_reducible rfl)))
      (try simp only [Act.put, List.setIfInBounds_toArray, List.set_cons_zero, List.set_cons_succ])
      first | (refine hand_skip (i := 16) rfl (by kernel_rfl) (by kernel_rfl) (by kernel_rfl) (fun _ _ _ h => h) (by rfl) (by assumption) ?_) | (refine hand_run (i := 16) (v := ?_) rfl (by kernel_rfl) (by kernel_rfl) (by kernel_rfl) (fun _ _ _ h => h) (by rfl) ?_ (by assumption) ?_; rotate_left; (intro W hW; have f0 := cell_below hW c0; have f1 := cell_below hW c1; have f2 := cell_below hW c2; have f3 := cell_below hW c3; have f4 := cell_below hW c4; have f5 := cell_below hW hc; first | (go_simp; done) | (go_simp; with_reducible rfl)))
      (try simp only [Act.put, List.setIfInBounds_toArray, List.set_cons_zero, List.set_cons_succ])
      first | (refine hand_skip (i := 18) rfl (by kernel_rfl) (by kernel_rfl) (by kernel_rfl) (fun _ _ _ h => h) (by rfl) (by assumption) ?_) | (refine hand_run (i := 18) (v := ?_) rfl (by kernel_rfl) (by kernel_rfl) (by kernel_rfl) (fun _ _ _ h => h) (by rfl) ?_ (by assumption) ?_; rotate_left; (intro W hW; have f0 := cell_below hW c0; have f1 := cell_below hW c1; have f2 := cell_below hW c2; have f3 := cell_below hW c3; have f4 := cell_below hW c4; have f5 := cell_below hW hc; first | (go_simp; done) | (go_simp; with_reducible rfl)))
      (try simp only [Act.put, List.setIfInBounds_toArray, List.set_cons_zero, List.set_cons_succ])
      first | (refine hand_skip (i := 19) rfl (by kernel_rfl) (by kernel_rfl) (by kernel_rfl) (fun _ _ _ h => h) (by rfl) (by assumption) ?_) | (refine hand_run (i := 19) (v := ?_) rfl (by kernel_rfl) (by kernel_rfl) (by kernel_rfl) (fun _ _ _ h => h) (by rfl) ?_ (by assumption) ?_; rotate_left; (intro W hW; have f0 := cell_below hW c0; have f1 := cell_below hW c1; have f2 := cell_below hW c2; have f3 := cell_below hW c3; have f4 := cell_below hW c4; have f5 := cell_below hW hc; first | (go_simp; done) | (go_simp; with_reducible rfl)))
      (try simp only [Act.put, List.setIfInBounds_toArray, List.set_cons_zero, List.set_cons_succ])
      first | (refine hand_skip (i := 20) rfl (by kernel_rfl) (by kernel_rfl) (by kernel_rfl) (fun _ _ _ h => h) (by rfl) (by assumption) ?_) | (refine hand_run (i := 20) (v := ?_) rfl (by kernel_rfl) (by kernel_rfl) (by kernel_rfl) (fun _ _ _ h => h) (by rfl) ?_ (by assumption) ?_; rotate_left; (intro W hW; have f0 := cell_below hW c0; have f1 := cell_below hW c1; have f2 := cell_below hW c2; have f3 := cell_below hW c3; have f4 := cell_below hW c4; have f5 := cell_below hW hc; first | (go_simp; done) | (go_simp; with_reducible rfl)))
      (try simp only [Act.put, List.setIfInBounds_toArray, List.set_cons_zero, List.set_cons_succ])
      first | (refine hand_skip (i := 17) rfl (by kernel_rfl) (by kernel_rfl) (by kernel_rfl) (fun _ _ _ h => h) (by rfl) (by assumption) ?_) | (refine hand_run (i := 17) (v := ?_) rfl (by kernel_rfl) (by kernel_rfl) (by kernel_rfl) (fun _ _ _ h => h) (by rfl) ?_ (by assumption) ?_; rotate_left; (intro W hW; have f0 := cell_below hW c0; have f1 := cell_below hW c1; have f2 := cell_below hW c2; have f3 := cell_below hW c3; have f4 := cell_below hW c4; have f5 := cell_below hW hc; first | (go_simp; done) | (go_simp; with_reducible rfl)))
      (try simp only [Act.put, List.setIfInBounds_toArray, List.set_cons_zero, List.set_cons_succ])
      first | (refine hand_skip (i := 21) rfl (by kernel_rfl) (by kernel_rfl) (by kernel_rfl) (fun _ _ _ h => h) (by rfl) (by assumption) ?_) | (refine hand_run (i := 21) (v := ?_) rfl (by kernel_rfl) (by kernel_rfl) (by kernel_rfl) (fun _ _ _ h => h) (by rfl) ?_ (by assumption) ?_; rotate_left; (intro W hW; have f0 := cell_below hW c0; have f1 := cell_below hW c1; have f2 := cell_below hW c2; have f3 := cell_below hW c3; have f4 := cell_below hW c4; have f5 := cell_below hW hc; first | (go_simp; done) | (go_simp; with_reducible rfl)))
      (try simp only [Act.put, List.setIfInBounds_toArray, List.set_cons_zero, List.set_cons_succ])
      first | (refine hand_skip (i := 22) rfl (by kernel_rfl) (by kernel_rfl) (by kernel_rfl) (fun _ _ _ h => h) (by rfl) (by assumption) ?_) | (refine hand_run (i := 22) (v := ?_) rfl (by kernel_rfl) (by kernel_rfl) (by kernel_rfl) (fun _ _ _ h => h) (by rfl) ?_ (by assumption) ?_; rotate_left; (intro W hW; have f0 := cell_below hW c0; have f1 := cell_below hW c1; have f2 := cell_below hW c2; have f3 := cell_below hW c3; have f4 := cell_below hW c4; have f5 := cell_below hW hc; first | (go_simp; done) | (go_simp; with_reducible rfl)))
      (try simp only [Act.put, List.setIfInBounds_toArray, List.set_cons_zero, List.set_cons_succ])
      first | (refine hand_skip (i := 23) rfl (by kernel_rfl) (by kernel_rfl) (by kernel_rfl) (fun _ _ _ h => h) (by rfl) (by assumption) ?_) | (refine hand_run (i := 23) (v := ?_) rfl (by kernel_rfl) (by kernel_rfl) (by kernel_rfl) (fun _ _ _ h => h) (by rfl) ?_ (by assumption) ?_; rotate_left; (intro W hW; have f0 := cell_below hW c0; have f1 := cell_below hW c1; have f2 := cell_below hW c2; have f3 := cell_below hW c3; have f4 := cell_below hW c4; have f5 := cell_below hW hc; first | (go_simp; done) | (go_simp; with_reducible rfl)))
      (try simp only [Act.put, List.setIfInBounds_toArray, List.set_cons_zero, List.set_cons_succ])
      first | (refine hand_skip (i := 24) rfl (by kernel_rfl) (by kernel_rfl) (by kernel_rfl) (fun _ _ _ h => h) (by rfl) (by assumption) ?_) | (refine hand_run (i := 24) (v := ?_) rfl (by kernel_rfl) (by kernel_rfl) (by kernel_rfl) (fun _ _ _ h => h) (by rfl) ?_ (by assumption) ?_; rotate_left; (intro W hW; have f0 := cell_below hW c0; have f1 := cell_below hW c1; have f2 := cell_below hW c2; have f3 := cell_below hW c3; have f4 := cell_below hW c4; have f5 := cell_below hW hc; first | (go_simp; done) | (go_simp; with_reducible rfl)))
      (try simp only [Act.put, List.setIfInBounds_toArray, List.set_cons_zero, List.set_cons_succ])
      first | (refine hand_skip (i := 25) rfl (by kernel_rfl) (by kernel_rfl) (by kernel_rfl) (fun _ _ _ h => h) (by rfl) (by assumption) ?_) | (refine hand_run (i := 25) (v := ?_) rfl (by kernel_rfl) (by kernel_rfl) (by kernel_rfl) (fun _ _ _ h => h) (by rfl) ?_ (by assumption) ?_; rotate_left; (intro W hW; have f0 := cell_below hW c0; have f1 := cell_below hW c1; have f2 := cell_below hW c2; have f3 := cell_below hW c3; have f4 := cell_below hW c4; have f5 := cell_below hW hc; first | (go_simp; done) | (go_simp; with_reducible rfl)))
      (try simp only [Act.put, List.setIfInBounds_toArray, List.set_cons_zero, List.set_cons_succ])
      first | (refine hand_skip (i := 26) rfl (by kernel_rfl) (by kernel_rfl) (by kernel_rfl) (fun _ _ _ h => h) (by rfl) (by assumption) ?_) | (refine hand_run (i := 26) (v := ?_) rfl (by kernel_rfl) (by kernel_rfl) (by kernel_rfl) (fun _ _ _ h => h) (by rfl) ?_ (by assumption) ?_; rotate_left; (intro W hW; have f0 := cell_below hW c0; have f1 := cell_below hW c1; have f2 := cell_below hW c2; have f3 := cell_below hW c3; have f4 := cell_below hW c4; have f5 := cell_below hW hc; first | (go_simp; done) | (go_simp; with_reducible rfl)))
      (try simp only [Act.put, List.setIfInBounds_toArray, List.set_cons_zero, List.set_cons_succ])
      first | (refine hand_skip (i := 27) rfl (by kernel_rfl) (by kernel_rfl) (by kernel_rfl) (fun _ _ _ h => h) (by rfl) (by assumption) ?_) | (refine hand_run (i := 27) (v := ?_) rfl (by kernel_rfl) (by kernel_rfl) (by kernel_rfl) (fun _ _ _ h => h) (by rfl) ?_ (by assumption) ?_; rotate_left; (intro W hW; have f0 := cell_below hW c0; have f1 := cell_below hW c1; have f2 := cell_below hW c2; have f3 := cell_below hW c3; have f4 := cell_below hW c4; have f5 := cell_below hW hc; first | (go_simp; done) | (go_simp; with_reducible rfl)))
      (try simp only [Act.put, List.setIfInBounds_toArray, List.set_cons_zero, List.set_cons_succ])
      first | (refine hand_skip (i := 28) rfl (by kernel_rfl) (by kernel_rfl) (by kernel_rfl) (fun _ _ _ h => h) (by rfl) (by assumption) ?_) | (refine hand_run (i := 28) (v := ?_) rfl (by kernel_rfl) (by kernel_rfl) (by kernel_rfl) (fun _ _ _ h => h) (by rfl) ?_ (by assumption) ?_; rotate_left; (intro W hW; have f0 := cell_below hW c0; have f1 := cell_below hW c1; have f2 := cell_below hW c2; have f3 := cell_below hW c3; have f4 := cell_below hW c4; have f5 := cell_below hW hc; first | (go_simp; done) | (go_simp; with_reducible rfl)))
      (try simp only [Act.put, List.setIfInBounds_toArray, List.set_cons_zero, List.set_cons_succ])
      first | (refine hand_skip (i := 29) rfl (by kernel_rfl) (by kernel_rfl) (by kernel_rfl) (fun _ _ _ h => h) (by rfl) (by assumption) ?_) | (refine hand_run (i := 29) (v := ?_) rfl (by kernel_rfl) (by kernel_rfl) (by kernel_rfl) (fun _ _ _ h => h) (by rfl) ?_ (by assumption) ?_; rotate_left; (intro W hW; have f0 := cell_below hW c0; have f1 := cell_below hW c1; have f2 := cell_below hW c2; have f3 := cell_below hW c3; have f4 := cell_below hW c4; have f5 := cell_below hW hc; first | (go_simp; done) | (go_simp; with_reducible rfl)))
      (try simp only [Act.put, List.setIfInBounds_toArray, List.set_cons_zero, List.set_cons_succ])
      refine wpAnyH_done (by kernel_rfl) ?_ _
      go_wp2_with fail
      go_ret
      exact ⟨ret_bool HF.out.symm, below_trans' hb02 hHeld⟩
  · have hn1 : (((startsL k x).length : Int) != 1) = true := by simp; omega
    have HF := Lib.hid (singB_no fun h => h1 (HSI.out.1 h).1)
    clear h1
    go_wp2_with fail
    go_quiet (fail)
    go_wp2_with fail
    go_ret
    exact ⟨ret_bool HF.out.symm, below_trans' hb02 (below_drewN (Below.refl _ _) _)⟩

theorem l14Single_any {B L : Nat} (v : CV) (k : Cd) (x : Nat) (w : World) (hr : Right k) (hk : CodeAt w B v k) (hcb : CdB L k) (hL : L ≤ 1048576) (hx : x < k.procs.length) (hroot : RootP k x) :
    Calls Tryz.prog 110 #[.agg #[.slice v.gA k.globals.length v.gc, .slice v.lA k.locks.length v.lc, .slice v.pA k.procs.length v.pc, .slice v.eA k.entry.length v.ec, .slice v.iA k.ins.length v.ic], .int .i64 x] w fun e w' => e = .returned (.bool (singB k x)) ∧ Below w.heap.size w w' := by
  by_cases hm : x = mainN k
  · subst hm
    have := l14Single_main v k w hr hk hcb hL
    rw [nilB_sing] at this
    exact this
  · exact l14Single_other v k x w hr hk hcb hL hx hm hroot

end Go.Proofs.YtfecdgjnncpcjaaGreat
