/- Contracts of NextOf, ReachIn, LiveIn, of the program and of the reference. -/
import Derived.Test.YtkgoajnnkimkaaaGreatC4
set_option linter.unusedSimpArgs false
set_option linter.unusedVariables false
namespace Go.Proofs.YtkgoajnnkimkaaaGreat
open Go.ChangeShapes Go.WideShapes Go.ChangeAt Go.RowKit
theorem listN_markL {n : Nat} {P : Nat → Prop} : (listN (markL n P).length fun i => mkd (markL n P) i = true) = listN n P := by
  rw [markL_len]
  exact listN_congr fun i hi => by rw [mkd_markL_true]; exact ⟨fun h => h.2, fun h => ⟨hi, h⟩⟩
theorem atL_len {k : Cd} {at_ : Int} {F : Nat → List Nat} {n : Nat} (h : ∀ a, (F a).length ≤ n) : (atL k at_ F).length ≤ n := by
  unfold atL
  split
  · exact h _
  · simp
theorem procL_len {k : Cd} {at_ : Int} {F : Nat → List Nat} {n : Nat} (h : ∀ a, (F a).length ≤ n) : (procL k at_ F).length ≤ n := by
  unfold procL
  split
  · exact h _
  · simp

set_option maxHeartbeats 1000000 in
theorem nextOf_i {B L : Nat} (v : CV) (k : Cd) (at_ : Int) (w : World) (hk : CodeAt w B v k) (hcb : CdB L k) (hL : L ≤ 1048576) :
    Calls Tryz.prog 47 #[.agg #[.slice v.gA k.globals.length v.gc, .slice v.lA k.locks.length v.lc, .slice v.pA k.procs.length v.pc, .slice v.eA k.entry.length v.ec, .slice v.iA k.ins.length v.ic], .int .i64 at_] w (NewNats w (atL k at_ (nextL k))) := by
  have hkf := hk.full
  have hbx := codeBox w v k
  have hpl0 := hcb.procs
  have hil0 := hcb.ins
  cases hok : codeOkI k
  · have HW := Lib.hid (fun W (h : CodeAt W w.heap.size v k) => worldOf_no v k W h hcb (by omega) hok)
    have HZ := Lib.hid (show ∀ w', Below w.heap.size w w' → NewNats w (atL k at_ (nextL k)) (.returned (.slice none 0 0)) w' from fun w' h => newNil (atL_no (and_no1 hok)) h)
    clear hok hcb hk
    go_enter Tryz.func47, Tryz.ntmps47
    go_wp2_with fail
    generalize w.alloc (.cells #[.slice v.gA k.globals.length v.gc, .slice v.lA k.locks.length v.lc, .slice v.pA k.procs.length v.pc, .slice v.eA k.entry.length v.ec, .slice v.iA k.ins.length v.ic] 28) = W at hbx ⊢
    refine (HW.out _ (hkf.below hbx.1)).mono ?_
    rintro e w1 ⟨rfl, hb1⟩
    go_wp2_with fail
    go_ret
    exact HZ.out _ (below_trans' hbx.1 hb1)
  · have HR := Lib.hid (right_of hok)
    have HW := Lib.hid (fun W (h : CodeAt W w.heap.size v k) => worldOf_yes v k W h hcb (by omega) hok)
    cases hpl : (decide (0 ≤ at_) && decide (at_ < k.ins.length))
    · have HZ := Lib.hid (show ∀ w', Below w.heap.size w w' → NewNats w (atL k at_ (nextL k)) (.returned (.slice none 0 0)) w' from fun w' h => newNil (atL_no (and_no2 hpl)) h)
      have HPL := Lib.hid hpl
      clear hok hpl hcb hk
      go_enter Tryz.func47, Tryz.ntmps47
      go_wp2_with fail
      generalize w.alloc (.cells #[.slice v.gA k.globals.length v.gc, .slice v.lA k.locks.length v.lc, .slice v.pA k.procs.length v.pc, .slice v.eA k.entry.length v.ec, .slice v.iA k.ins.length v.ic] 28) = W at hbx ⊢
      refine (HW.out _ (hkf.below hbx.1)).mono ?_
      rintro e w1 ⟨g, rfl, hgl, hW, hb1⟩
      have hbx1 := hbx.to hb1
      obtain ⟨hbw, hsz, c0, c1, c2, c3, c4⟩ := id hbx1
      go_wp2_with fail
      refine (isPlace_any v k _ _).mono ?_
      rintro e w2 ⟨rfl, hb2⟩
      rw [HPL.out]
      go_wp2_with fail
      go_ret
      exact HZ.out _ (below_trans' hbw hb2)
    · obtain ⟨a, rfl, hal⟩ : ∃ a : Nat, at_ = a ∧ a < k.ins.length := by
        simp only [Bool.and_eq_true, decide_eq_true_eq] at hpl
        exact ⟨at_.toNat, by omega, by omega⟩
      have HY := Lib.hid (atL_yes (F := nextL k) hok hal)
      have HPL := Lib.hid hpl
      clear hok hpl hcb hk
      go_enter Tryz.func47, Tryz.ntmps47
      go_wp2_with fail
      generalize w.alloc (.cells #[.slice v.gA k.globals.length v.gc, .slice v.lA k.locks.length v.lc, .slice v.pA k.procs.length v.pc, .slice v.eA k.entry.length v.ec, .slice v.iA k.ins.length v.ic] 28) = W at hbx ⊢
      refine (HW.out _ (hkf.below hbx.1)).mono ?_
      rintro e w1 ⟨g, rfl, hgl, hW, hb1⟩
      have hbx1 := hbx.to hb1
      obtain ⟨hbw, hsz, c0, c1, c2, c3, c4⟩ := id hbx1
      go_wp2_with fail
      refine (isPlace_any v k _ _).mono ?_
      rintro e w2 ⟨rfl, hb2⟩
      rw [HPL.out]
      clear c0 c1 c2 c3 c4
      have hW2 := hW.below hb2
      have hb02 := below_trans' hbw hb2
      have hbx2 := hbx1.to hb2
      clear hbx1 hbw hsz hb2 hb1 hbx
      have HC := Lib.hid (nextIn_any g v k a w2 HR.out hW2.code hW2.kat hal)
      go_wp2_with fail
      refine HC.out.mono ?_
      rintro e w3 ⟨A3, c3, rfl, ho3, hb3⟩
      go_wp2_with fail
      go_ret
      exact NewNats.more ⟨A3, c3, rfl, ho3, hb3⟩ hb02 HY.out

set_option maxHeartbeats 1000000 in
theorem reachIn_i {B L : Nat} (v : CV) (k : Cd) (at_ : Int) (w : World) (hk : CodeAt w B v k) (hcb : CdB L k) (hL : L ≤ 1048576) :
    Calls Tryz.prog 48 #[.agg #[.slice v.gA k.globals.length v.gc, .slice v.lA k.locks.length v.lc, .slice v.pA k.procs.length v.pc, .slice v.eA k.entry.length v.ec, .slice v.iA k.ins.length v.ic], .int .i64 at_] w (NewNats w (atL k at_ (fun a => listN k.ins.length (Reach (nextL k) a)))) := by
  have hkf := hk.full
  have hbx := codeBox w v k
  have hpl0 := hcb.procs
  have hil0 := hcb.ins
  cases hok : codeOkI k
  · have HW := Lib.hid (fun W (h : CodeAt W w.heap.size v k) => worldOf_no v k W h hcb (by omega) hok)
    have HZ := Lib.hid (show ∀ w', Below w.heap.size w w' → NewNats w (atL k at_ (fun a => listN k.ins.length (Reach (nextL k) a))) (.returned (.slice none 0 0)) w' from fun w' h => newNil (atL_no (and_no1 hok)) h)
    clear hok hcb hk
    go_enter Tryz.func48, Tryz.ntmps48
    go_wp2_with fail
    generalize w.alloc (.cells #[.slice v.gA k.globals.length v.gc, .slice v.lA k.locks.length v.lc, .slice v.pA k.procs.length v.pc, .slice v.eA k.entry.length v.ec, .slice v.iA k.ins.length v.ic] 28) = W at hbx ⊢
    refine (HW.out _ (hkf.below hbx.1)).mono ?_
    rintro e w1 ⟨rfl, hb1⟩
    go_wp2_with fail
    go_ret
    exact HZ.out _ (below_trans' hbx.1 hb1)
  · have HR := Lib.hid (right_of hok)
    have HW := Lib.hid (fun W (h : CodeAt W w.heap.size v k) => worldOf_yes v k W h hcb (by omega) hok)
    cases hpl : (decide (0 ≤ at_) && decide (at_ < k.ins.length))
    · have HZ := Lib.hid (show ∀ w', Below w.heap.size w w' → NewNats w (atL k at_ (fun a => listN k.ins.length (Reach (nextL k) a))) (.returned (.slice none 0 0)) w' from fun w' h => newNil (atL_no (and_no2 hpl)) h)
      have HPL := Lib.hid hpl
      clear hok hpl hcb hk
      go_enter Tryz.func48, Tryz.ntmps48
      go_wp2_with fail
      generalize w.alloc (.cells #[.slice v.gA k.globals.length v.gc, .slice v.lA k.locks.length v.lc, .slice v.pA k.procs.length v.pc, .slice v.eA k.entry.length v.ec, .slice v.iA k.ins.length v.ic] 28) = W at hbx ⊢
      refine (HW.out _ (hkf.below hbx.1)).mono ?_
      rintro e w1 ⟨g, rfl, hgl, hW, hb1⟩
      have hbx1 := hbx.to hb1
      obtain ⟨hbw, hsz, c0, c1, c2, c3, c4⟩ := id hbx1
      go_wp2_with fail
      refine (isPlace_any v k _ _).mono ?_
      rintro e w2 ⟨rfl, hb2⟩
      rw [HPL.out]
      go_wp2_with fail
      go_ret
      exact HZ.out _ (below_trans' hbw hb2)
    · obtain ⟨a, rfl, hal⟩ : ∃ a : Nat, at_ = a ∧ a < k.ins.length := by
        simp only [Bool.and_eq_true, decide_eq_true_eq] at hpl
        exact ⟨at_.toNat, by omega, by omega⟩
      have HY := Lib.hid (atL_yes (F := fun a => listN k.ins.length (Reach (nextL k) a)) hok hal)
      have HPL := Lib.hid hpl
      clear hok hpl hcb hk
      go_enter Tryz.func48, Tryz.ntmps48
      go_wp2_with fail
      generalize w.alloc (.cells #[.slice v.gA k.globals.length v.gc, .slice v.lA k.locks.length v.lc, .slice v.pA k.procs.length v.pc, .slice v.eA k.entry.length v.ec, .slice v.iA k.ins.length v.ic] 28) = W at hbx ⊢
      refine (HW.out _ (hkf.below hbx.1)).mono ?_
      rintro e w1 ⟨g, rfl, hgl, hW, hb1⟩
      have hbx1 := hbx.to hb1
      obtain ⟨hbw, hsz, c0, c1, c2, c3, c4⟩ := id hbx1
      go_wp2_with fail
      refine (isPlace_any v k _ _).mono ?_
      rintro e w2 ⟨rfl, hb2⟩
      rw [HPL.out]
      clear c0 c1 c2 c3 c4
      have hW2 := hW.below hb2
      have hb02 := below_trans' hbw hb2
      have hbx2 := hbx1.to hb2
      clear hbx1 hbw hsz hb2 hb1 hbx
      have HC := Lib.hid (reach_any g v k a w2 HR.out hW2.code hW2.kat hal)
      have hins := HR.out.ins
      go_wp2_with fail
      refine HC.out.mono ?_
      rintro e w3 ⟨A3, c3, rfl, ho3, hb3⟩
      have HD := marked_any A3 c3 (markL k.ins.length (Reach (nextL k) a)) w3 (own_rd ho3) (by rw [markL_len]; omega)
      rw [listN_markL] at HD
      have HD := Lib.hid HD
      go_wp2_with fail
      refine HD.out.mono ?_
      rintro e w4 ⟨A4, c4, rfl, ho4, hb4⟩
      go_wp2_with fail
      go_ret
      exact NewNats.more ⟨A4, c4, rfl, ho4, hb4⟩ (below_trans' hb02 hb3) HY.out

set_option maxHeartbeats 1000000 in
theorem reachIn_s {B L : Nat} (v : CV) (k : Cd) (at_ : Int) (w : World) (hk : CodeAt w B v k) (hcb : CdB L k) (hL : L ≤ 1048576) :
    Calls Tryz.prog 52 #[.agg #[.slice v.gA k.globals.length v.gc, .slice v.lA k.locks.length v.lc, .slice v.pA k.procs.length v.pc, .slice v.eA k.entry.length v.ec, .slice v.iA k.ins.length v.ic], .int .i64 at_] w (NewNats w (atL k at_ (fun a => listN k.ins.length (Reach (nextL k) a)))) := by
  have hkf := hk.full
  have hbx := codeBox w v k
  have hpl0 := hcb.procs
  have hil0 := hcb.ins
  have HG := Lib.hid (fun W (h : CodeAt W w.heap.size v k) => l09At_any v k at_ W h hcb (by omega))
  cases hok : (codeOkI k && (decide (0 ≤ at_) && decide (at_ < k.ins.length)))
  · have HZ := Lib.hid (show ∀ W, Below w.heap.size w W → NewNats w (atL k at_ (fun a => listN k.ins.length (Reach (nextL k) a))) (.returned (.slice (some ⟨W.heap.size, 0, none⟩) 0 0)) (W.alloc (.cells #[] 3)) from fun W h => newNil0 (atL_no hok) h)
    rw [hok] at HG
    clear hok hcb hk
    go_enter Tryz.func52, Tryz.ntmps52
    go_wp2_with fail
    generalize w.alloc (.cells #[.slice v.gA k.globals.length v.gc, .slice v.lA k.locks.length v.lc, .slice v.pA k.procs.length v.pc, .slice v.eA k.entry.length v.ec, .slice v.iA k.ins.length v.ic] 28) = W at hbx ⊢
    refine (HG.out _ (hkf.below hbx.1)).mono ?_
    rintro e w1 ⟨rfl, hb1⟩
    go_wp2_with fail
    go_ret
    exact HZ.out _ (below_trans' hbx.1 hb1)
  · rw [hok] at HG
    obtain ⟨hok1, a, rfl, hal⟩ : codeOkI k = true ∧ ∃ a : Nat, at_ = a ∧ a < k.ins.length := by
      simp only [Bool.and_eq_true, decide_eq_true_eq] at hok
      exact ⟨hok.1, at_.toNat, by omega, by omega⟩
    have HR := Lib.hid (right_of hok1)
    have HY := Lib.hid (atL_yes (F := fun a => listN k.ins.length (Reach (nextL k) a)) hok1 hal)
    clear hok hok1 hcb hk
    go_enter Tryz.func52, Tryz.ntmps52
    go_wp2_with fail
    generalize w.alloc (.cells #[.slice v.gA k.globals.length v.gc, .slice v.lA k.locks.length v.lc, .slice v.pA k.procs.length v.pc, .slice v.eA k.entry.length v.ec, .slice v.iA k.ins.length v.ic] 28) = W at hbx ⊢
    refine (HG.out _ (hkf.below hbx.1)).mono ?_
    rintro e w2 ⟨rfl, hb2⟩
    have hbx2 := hbx.to hb2
    clear hbx hb2
    have hk2 := hkf.below hbx2.1
    have hb02 := hbx2.1
    obtain ⟨_, _, c0, c1, c2, c3, c4⟩ := id hbx2
    have HC := Lib.hid (l09Reach_any v k a w2 HR.out hk2 hal)
    have hins := HR.out.ins
    go_wp2_with fail
    refine HC.out.mono ?_
    rintro e w3 ⟨A3, c3', rfl, ho3, hb3⟩
    have HD := l09Marked_any A3 c3' (markL k.ins.length (Reach (nextL k) a)) w3 (own_rd ho3) (by rw [markL_len]; omega)
    rw [listN_markL] at HD
    have HD := Lib.hid HD
    go_wp2_with fail
    refine HD.out.mono ?_
    rintro e w4 ⟨A4, c4', rfl, ho4, hb4⟩
    go_wp2_with fail
    go_ret
    exact NewNats.more ⟨A4, c4', rfl, ho4, hb4⟩ (below_trans' hb02 hb3) HY.out

set_option maxHeartbeats 1000000 in
theorem liveIn_i {B L : Nat} (v : CV) (k : Cd) (at_ : Int) (w : World) (hk : CodeAt w B v k) (hcb : CdB L k) (hL : L ≤ 1048576) :
    Calls Tryz.prog 53 #[.agg #[.slice v.gA k.globals.length v.gc, .slice v.lA k.locks.length v.lc, .slice v.pA k.procs.length v.pc, .slice v.eA k.entry.length v.ec, .slice v.iA k.ins.length v.ic], .int .i64 at_] w (NewNats w (procL k at_ (fun p => listN k.ins.length (LiveP k p)))) := by
  have hkf := hk.full
  have hbx := codeBox w v k
  have hpl0 := hcb.procs
  have hil0 := hcb.ins
  cases hok : codeOkI k
  · have HW := Lib.hid (fun W (h : CodeAt W w.heap.size v k) => worldOf_no v k W h hcb (by omega) hok)
    have HZ := Lib.hid (show ∀ w', Below w.heap.size w w' → NewNats w (procL k at_ (fun p => listN k.ins.length (LiveP k p))) (.returned (.slice none 0 0)) w' from fun w' h => newNil (procL_no (and_no1 hok)) h)
    clear hok hcb hk
    go_enter Tryz.func53, Tryz.ntmps53
    go_wp2_with fail
    generalize w.alloc (.cells #[.slice v.gA k.globals.length v.gc, .slice v.lA k.locks.length v.lc, .slice v.pA k.procs.length v.pc, .slice v.eA k.entry.length v.ec, .slice v.iA k.ins.length v.ic] 28) = W at hbx ⊢
    refine (HW.out _ (hkf.below hbx.1)).mono ?_
    rintro e w1 ⟨rfl, hb1⟩
    go_wp2_with fail
    go_ret
    exact HZ.out _ (below_trans' hbx.1 hb1)
  · have HR := Lib.hid (right_of hok)
    have HW := Lib.hid (fun W (h : CodeAt W w.heap.size v k) => worldOf_yes v k W h hcb (by omega) hok)
    cases hpl : (decide (0 ≤ at_) && decide (at_ < k.procs.length))
    · have HZ := Lib.hid (show ∀ w', Below w.heap.size w w' → NewNats w (procL k at_ (fun p => listN k.ins.length (LiveP k p))) (.returned (.slice none 0 0)) w' from fun w' h => newNil (procL_no (and_no2 hpl)) h)
      have HPL := Lib.hid hpl
      clear hok hpl hcb hk
      go_enter Tryz.func53, Tryz.ntmps53
      go_wp2_with fail
      generalize w.alloc (.cells #[.slice v.gA k.globals.length v.gc, .slice v.lA k.locks.length v.lc, .slice v.pA k.procs.length v.pc, .slice v.eA k.entry.length v.ec, .slice v.iA k.ins.length v.ic] 28) = W at hbx ⊢
      refine (HW.out _ (hkf.below hbx.1)).mono ?_
      rintro e w1 ⟨g, rfl, hgl, hW, hb1⟩
      have hbx1 := hbx.to hb1
      obtain ⟨hbw, hsz, c0, c1, c2, c3, c4⟩ := id hbx1
      go_wp2_with fail
      refine (isProc_any g v k _ _ hW.kat (by omega)).mono ?_
      rintro e w2 ⟨rfl, rfl⟩
      have hb2 := Below.refl w1.heap.size w1
      rw [HPL.out]
      go_wp2_with fail
      go_ret
      exact HZ.out _ (below_trans' hbw hb2)
    · obtain ⟨a, rfl, hal⟩ : ∃ a : Nat, at_ = a ∧ a < k.procs.length := by
        simp only [Bool.and_eq_true, decide_eq_true_eq] at hpl
        exact ⟨at_.toNat, by omega, by omega⟩
      have HY := Lib.hid (procL_yes (F := fun p => listN k.ins.length (LiveP k p)) hok hal)
      have HPL := Lib.hid hpl
      clear hok hpl hcb hk
      go_enter Tryz.func53, Tryz.ntmps53
      go_wp2_with fail
      generalize w.alloc (.cells #[.slice v.gA k.globals.length v.gc, .slice v.lA k.locks.length v.lc, .slice v.pA k.procs.length v.pc, .slice v.eA k.entry.length v.ec, .slice v.iA k.ins.length v.ic] 28) = W at hbx ⊢
      refine (HW.out _ (hkf.below hbx.1)).mono ?_
      rintro e w1 ⟨g, rfl, hgl, hW, hb1⟩
      have hbx1 := hbx.to hb1
      obtain ⟨hbw, hsz, c0, c1, c2, c3, c4⟩ := id hbx1
      go_wp2_with fail
      refine (isProc_any g v k _ _ hW.kat (by omega)).mono ?_
      rintro e w2 ⟨rfl, rfl⟩
      have hb2 := Below.refl w1.heap.size w1
      rw [HPL.out]
      clear c0 c1 c2 c3 c4
      have hW2 := hW.below hb2
      have hb02 := below_trans' hbw hb2
      have hbx2 := hbx1.to hb2
      clear hbx1 hbw hsz hb2 hb1 hbx
      have HC := Lib.hid (liveOf_any g v k a w1 HR.out hW2.code hW2.kat hW2.live hal)
      go_wp2_with fail
      refine HC.out.mono ?_
      rintro e w3 ⟨A3, c3, rfl, ho3, hb3⟩
      go_wp2_with fail
      go_ret
      exact NewNats.more ⟨A3, c3, rfl, ho3, hb3⟩ hb02 HY.out

set_option maxHeartbeats 1000000 in
theorem liveIn_s {B L : Nat} (v : CV) (k : Cd) (at_ : Int) (w : World) (hk : CodeAt w B v k) (hcb : CdB L k) (hL : L ≤ 1048576) :
    Calls Tryz.prog 54 #[.agg #[.slice v.gA k.globals.length v.gc, .slice v.lA k.locks.length v.lc, .slice v.pA k.procs.length v.pc, .slice v.eA k.entry.length v.ec, .slice v.iA k.ins.length v.ic], .int .i64 at_] w (NewNats w (procL k at_ (fun p => listN k.ins.length (LiveP k p)))) := by
  have hkf := hk.full
  have hbx := codeBox w v k
  have hpl0 := hcb.procs
  have HG := Lib.hid (fun W (h : CodeAt W w.heap.size v k) => codeOk_sI v k W h hcb (by omega))
  have HZ0 := Lib.hid (show (codeOkI k && (decide (0 ≤ at_) && decide (at_ < k.procs.length))) = false → ∀ W, Below w.heap.size w W → NewNats w (procL k at_ (fun p => listN k.ins.length (LiveP k p))) (.returned (.slice (some ⟨W.heap.size, 0, none⟩) 0 0)) (W.alloc (.cells #[] 3)) from fun hok W h => newNil0 (procL_no hok) h)
  cases hok : codeOkI k
  · have HZ := Lib.hid (HZ0.out (and_no1 hok))
    rw [hok] at HG
    clear hok hcb hk HZ0
    go_enter Tryz.func54, Tryz.ntmps54
    go_wp2_with fail
    generalize w.alloc (.cells #[.slice v.gA k.globals.length v.gc, .slice v.lA k.locks.length v.lc, .slice v.pA k.procs.length v.pc, .slice v.eA k.entry.length v.ec, .slice v.iA k.ins.length v.ic] 28) = W at hbx ⊢
    refine (HG.out _ (hkf.below hbx.1)).mono ?_
    rintro e w1 ⟨rfl, hb1⟩
    go_wp2_with fail
    go_ret
    exact HZ.out _ (below_trans' hbx.1 hb1)
  · have HR := Lib.hid (right_of hok)
    cases hpl : (decide (0 ≤ at_) && decide (at_ < k.procs.length))
    · have HZ := Lib.hid (HZ0.out (and_no2 hpl))
      have HPL := Lib.hid (show (decide (0 ≤ at_) && decide (at_ ≤ (k.procs.length : Int) - 1)) = false from by rw [← hpl]; congr 2; simp; omega)
      rw [hok] at HG
      clear hok hpl hcb hk HZ0
      go_enter Tryz.func54, Tryz.ntmps54
      go_wp2_with fail
      generalize w.alloc (.cells #[.slice v.gA k.globals.length v.gc, .slice v.lA k.locks.length v.lc, .slice v.pA k.procs.length v.pc, .slice v.eA k.entry.length v.ec, .slice v.iA k.ins.length v.ic] 28) = W at hbx ⊢
      refine (HG.out _ (hkf.below hbx.1)).mono ?_
      rintro e w1 ⟨rfl, hb1⟩
      obtain ⟨hbw, hsz, c0, c1, c2, c3, c4⟩ := hbx.to hb1
      go_wp2_with fail
      refine (l01In_any _ _ _ _).mono ?_
      rintro e w2 ⟨rfl, rfl⟩
      rw [HPL.out]
      go_wp2_with fail
      go_ret
      exact HZ.out _ hbw
    · obtain ⟨a, rfl, hal⟩ : ∃ a : Nat, at_ = a ∧ a < k.procs.length := by
        simp only [Bool.and_eq_true, decide_eq_true_eq] at hpl
        exact ⟨at_.toNat, by omega, by omega⟩
      have HY := Lib.hid (procL_yes (F := fun p => listN k.ins.length (LiveP k p)) hok hal)
      have HPL := Lib.hid (show (decide (0 ≤ (a : Int)) && decide ((a : Int) ≤ (k.procs.length : Int) - 1)) = true from by simp; omega)
      rw [hok] at HG
      clear hok hpl hcb hk HZ0
      go_enter Tryz.func54, Tryz.ntmps54
      go_wp2_with fail
      generalize w.alloc (.cells #[.slice v.gA k.globals.length v.gc, .slice v.lA k.locks.length v.lc, .slice v.pA k.procs.length v.pc, .slice v.eA k.entry.length v.ec, .slice v.iA k.ins.length v.ic] 28) = W at hbx ⊢
      refine (HG.out _ (hkf.below hbx.1)).mono ?_
      rintro e w1 ⟨rfl, hb1⟩
      obtain ⟨hbw, hsz, c0, c1, c2, c3, c4⟩ := hbx.to hb1
      go_wp2_with fail
      refine (l01In_any _ _ _ _).mono ?_
      rintro e w2 ⟨rfl, rfl⟩
      rw [HPL.out]
      have HC := Lib.hid (l09Live_any v k a w1 HR.out (hkf.below hbw) hal)
      have hins := HR.out.ins
      go_wp2_with fail
      refine HC.out.mono ?_
      rintro e w3 ⟨A3, c3', rfl, ho3, hb3⟩
      have HD := l09Marked_any A3 c3' (markL k.ins.length (LiveP k a)) w3 (own_rd ho3) (by rw [markL_len]; omega)
      rw [listN_markL] at HD
      have HD := Lib.hid HD
      go_wp2_with fail
      refine HD.out.mono ?_
      rintro e w4 ⟨A4, c4', rfl, ho4, hb4⟩
      go_wp2_with fail
      go_ret
      exact NewNats.more ⟨A4, c4', rfl, ho4, hb4⟩ (below_trans' hbw hb3) HY.out
end Go.Proofs.YtkgoajnnkimkaaaGreat
