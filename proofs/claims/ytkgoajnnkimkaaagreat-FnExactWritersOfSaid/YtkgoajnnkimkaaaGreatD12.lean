/- Contracts of CallsFrom, CallersOf and RootsOf, of the program and of the reference; of l14Main and l14Roots. -/
import Derived.Test.YtkgoajnnkimkaaaGreatD3
import Derived.Test.YtkgoajnnkimkaaaGreatD5
import Derived.Test.YtkgoajnnkimkaaaGreatF1
set_option linter.unusedSimpArgs false
set_option linter.unusedVariables false
namespace Go.Proofs.YtkgoajnnkimkaaaGreat
open Go.ChangeShapes Go.WideShapes Go.ChangeAt Go.RowKit

set_option maxHeartbeats 1000000 in
theorem callsFrom_i {B L : Nat} (v : CV) (k : Cd) (at_ : Int) (w : World) (hk : CodeAt w B v k) (hcb : CdB L k) (hL : L ≤ 1048576) :
    Calls Tryz.prog 56 #[.agg #[.slice v.gA k.globals.length v.gc, .slice v.lA k.locks.length v.lc, .slice v.pA k.procs.length v.pc, .slice v.eA k.entry.length v.ec, .slice v.iA k.ins.length v.ic], .int .i64 at_] w (NewNats w (procL k at_ (fun p => listN k.procs.length (FromP k p)))) := by
  have hkf := hk.full
  have hbx := codeBox w v k
  have hpl0 := hcb.procs
  have hil0 := hcb.ins
  cases hok : codeOkI k
  · have HW := Lib.hid (fun W (h : CodeAt W w.heap.size v k) => worldOf_no v k W h hcb (by omega) hok)
    have HZ := Lib.hid (show ∀ w', Below w.heap.size w w' → NewNats w (procL k at_ (fun p => listN k.procs.length (FromP k p))) (.returned (.slice none 0 0)) w' from fun w' h => newNil (procL_no (and_no1 hok)) h)
    clear hok hcb hk
    go_enter Tryz.func56, Tryz.ntmps56
    go_wp2_with fail
    generalize w.alloc (.cells #[.slice v.gA k.globals.length v.gc, .slice v.lA k.locks.length v.lc, .slice v.pA k.procs.length v.pc, .slice v.eA k.entry.length v.ec, .slice v.iA k.ins.length v.ic] 28) = W at hbx ⊢
    refine (HW.out _ (hkf.below hbx.1)).mono ?_
    rintro e w1 ⟨rfl, hb1⟩
    go_wp2_with fail
    go_ret
    exact HZ.out _ (below_trans' hbx.1 hb1)
  · have HR := Lib.hid (right_of hok)
    have HW := Lib.hid (fun W (h : CodeAt W w.heap.size v k) => worldOf_yes v k W h hcb (by omega) hok)
    cases hpl : (decide (0 ≤ at_) && decide (at_ < k.procs.length))
    · have HZ := Lib.hid (show ∀ w', Below w.heap.size w w' → NewNats w (procL k at_ (fun p => listN k.procs.length (FromP k p))) (.returned (.slice none 0 0)) w' from fun w' h => newNil (procL_no (and_no2 hpl)) h)
      have HPL := Lib.hid hpl
      clear hok hpl hcb hk
      go_enter Tryz.func56, Tryz.ntmps56
      go_wp2_with fail
      generalize w.alloc (.cells #[.slice v.gA k.globals.length v.gc, .slice v.lA k.locks.length v.lc, .slice v.pA k.procs.length v.pc, .slice v.eA k.entry.length v.ec, .slice v.iA k.ins.length v.ic] 28) = W at hbx ⊢
      refine (HW.out _ (hkf.below hbx.1)).mono ?_
      rintro e w1 ⟨g, rfl, hgl, hW, hb1⟩
      have hbx1 := hbx.to hb1
      obtain ⟨hbw, hsz, c0, c1, c2, c3, c4⟩ := id hbx1
      go_wp2_with fail
      refine (isProc_any g v k _ _ hW.kat (by omega)).mono ?_
      rintro e w2 ⟨rfl, rfl⟩
      have hb2 := Below.refl w1.heap.size w1
      rw [HPL.out]
      go_wp2_with fail
      go_ret
      exact HZ.out _ (below_trans' hbw hb2)
    · obtain ⟨a, rfl, hal⟩ : ∃ a : Nat, at_ = a ∧ a < k.procs.length := by
        simp only [Bool.and_eq_true, decide_eq_true_eq] at hpl
        exact ⟨at_.toNat, by omega, by omega⟩
      have HY := Lib.hid (procL_yes (F := fun p => listN k.procs.length (FromP k p)) hok hal)
      have HPL := Lib.hid hpl
      clear hok hpl hcb hk
      go_enter Tryz.func56, Tryz.ntmps56
      go_wp2_with fail
      generalize w.alloc (.cells #[.slice v.gA k.globals.length v.gc, .slice v.lA k.locks.length v.lc, .slice v.pA k.procs.length v.pc, .slice v.eA k.entry.length v.ec, .slice v.iA k.ins.length v.ic] 28) = W at hbx ⊢
      refine (HW.out _ (hkf.below hbx.1)).mono ?_
      rintro e w1 ⟨g, rfl, hgl, hW, hb1⟩
      have hbx1 := hbx.to hb1
      obtain ⟨hbw, hsz, c0, c1, c2, c3, c4⟩ := id hbx1
      go_wp2_with fail
      refine (isProc_any g v k _ _ hW.kat (by omega)).mono ?_
      rintro e w2 ⟨rfl, rfl⟩
      have hb2 := Below.refl w1.heap.size w1
      rw [HPL.out]
      clear c0 c1 c2 c3 c4
      have hW2 := hW.below hb2
      have hb02 := below_trans' hbw hb2
      have hbx2 := hbx1.to hb2
      clear hbx1 hbw hsz hb2 hb1 hbx
      obtain ⟨ad, ct, h6, hc6⟩ := hW2.frm.get hal
      have hpl := HR.out.procs
      have HB := bitsOf_nats (fromT k a) w1 (two60 HR.out (setN_lt _ _))
      unfold fromT at HB
      rw [bitsTo_setN (by omega)] at HB
      have HB := Lib.hid HB
      unfold fromT at hc6
      have z1 : (0 : Int) ≤ (a : Int) := by omega
      have z2 : (a : Int) < (k.procs.length : Int) := by omega
      go_wp2_with fail
      refine HB.out.mono ?_
      rintro e w3 ⟨A3, c3, rfl, ho3, hb3⟩
      go_wp2_with fail
      go_ret
      exact NewNats.more ⟨A3, c3, rfl, ho3, hb3⟩ hb02 HY.out

set_option maxHeartbeats 1000000 in
theorem callersIn_any {B : Nat} (g : Nat) (v : CV) (k : Cd) (x : Nat) (w : World) (hr : Right k) (hW : WAt w B g v k) (hx : x < k.procs.length) :
    Calls Tryz.prog 128 #[.pointer (some ⟨g, 0, none⟩), .int .i64 x] w (NewNats w (listN k.procs.length (fun p => OpsP k 4 p x))) := by
  have hWf := hW.full
  have hpl := hr.procs
  obtain ⟨At, ct, h6, hrt⟩ := hWf.calls
  rw [tabL_len] at h6
  have hlt0 : x < k.procs.length := hx
  have HOP := Lib.hid (fun p (hp : p < k.procs.length) => show (opsT k 4 p).testBit x = true ↔ OpsP k 4 p x from (by unfold opsT; rw [testBit_setN_true]; exact ⟨fun h => h.2, fun h => ⟨hx, h⟩⟩))
  have HB := Lib.hid (fun p W => hasBit_any (opsT k 4 p) x W (by have := two60 hr (setN_lt k.procs.length (OpsP k 4 p)); unfold opsT; omega) (by omega))
  have HG := Lib.hid (fun p (hp : p < k.procs.length) W (hb : Below w.heap.size w W) => (hrt.below hb) p (.int .i64 (opsT k 4 p : Nat)) (nv_get (tabL_get hp)))
  clear hr hW hWf hrt
  go_enter Tryz.func128, Tryz.ntmps128
  go_wp2_with fail
  clear h6
  go_loopg [5, 13] k.procs.length (fun l out i wr => ∃ p : Nat, p ≤ k.procs.length ∧ l = k.procs.length - p ∧ i = .int .i64 p ∧ wr.ownsRow w.heap.size 3 1 out (listN p (fun p => OpsP k 4 p x)).length (nv (listN p (fun p => OpsP k 4 p x))) ∧ Below w.heap.size w wr)
  case atStart => exact ⟨0, by omega, by omega, rfl, World.ownsRow_nil _ _ _ _, Below.refl _ _⟩
  case round =>
    obtain ⟨p, hp, rfl, rfl, ho, hb⟩ := hrel
    obtain ⟨Ao, co, rfl⟩ := own_form ho
    have hll := listN_len p (fun p => OpsP k 4 p x)
    have hsz := hb.size
    by_cases hlt : p < k.procs.length
    · obtain ⟨ad, rfl, _, hc⟩ := HG.out p hlt wr hb
      have HT := Lib.hid (listN_succ p (fun p => OpsP k 4 p x))
      have HO := Lib.hid (HOP.out p hlt)
      have HBP := Lib.hid (HB.out p)
      generalize opsT k 4 p = s at *
      cases hbit : s.testBit x
      · rw [hbit] at HO HBP
        have HN := Lib.hid (show ¬ OpsP k 4 p x from fun h => by have := HO.out.2 h; simp at this)
        clear hbit
        go_wp2_with fail
        refine (HBP.out _).mono ?_
        rintro e w2 ⟨rfl, rfl⟩
        go_wp2_with fail
        go_roundg (k.procs.length - (p + 1))
        case measure => omega
        case rel => exact ⟨p + 1, by omega, rfl, by go_num, by rw [HT.out, if_neg HN.out]; exact ho, hb⟩
      · rw [hbit] at HO HBP
        have HN := Lib.hid (HO.out.1 rfl)
        clear hbit
        go_wp2_with fail
        refine (HBP.out _).mono ?_
        rintro e w2 ⟨rfl, rfl⟩
        go_wp2_with (at_builtin; refine append_int rfl _ _ rfl ho rfl rfl (by omega) hsz ?_; intro A' c' w3 ho3 hg3 hl3)
        go_roundg (k.procs.length - (p + 1))
        case measure => omega
        case rel =>
          refine ⟨p + 1, by omega, rfl, by go_num, ?_, below_append hb ho hg3 hsz (Nat.le_refl _)⟩
          rw [HT.out, if_pos HN.out, nv_snoc, List.length_append]
          exact ho3
    · obtain rfl : p = k.procs.length := by omega
      go_wp2_with fail
      go_ret
      exact ⟨Ao, co, rfl, ho, hb⟩

set_option maxHeartbeats 1000000 in
theorem callersOf_i {B L : Nat} (v : CV) (k : Cd) (at_ : Int) (w : World) (hk : CodeAt w B v k) (hcb : CdB L k) (hL : L ≤ 1048576) :
    Calls Tryz.prog 57 #[.agg #[.slice v.gA k.globals.length v.gc, .slice v.lA k.locks.length v.lc, .slice v.pA k.procs.length v.pc, .slice v.eA k.entry.length v.ec, .slice v.iA k.ins.length v.ic], .int .i64 at_] w (NewNats w (procL k at_ (fun x => listN k.procs.length (fun p => OpsP k 4 p x)))) := by
  have hkf := hk.full
  have hbx := codeBox w v k
  have hpl0 := hcb.procs
  have hil0 := hcb.ins
  cases hok : codeOkI k
  · have HW := Lib.hid (fun W (h : CodeAt W w.heap.size v k) => worldOf_no v k W h hcb (by omega) hok)
    have HZ := Lib.hid (show ∀ w', Below w.heap.size w w' → NewNats w (procL k at_ (fun x => listN k.procs.length (fun p => OpsP k 4 p x))) (.returned (.slice none 0 0)) w' from fun w' h => newNil (procL_no (and_no1 hok)) h)
    clear hok hcb hk
    go_enter Tryz.func57, Tryz.ntmps57
    go_wp2_with fail
    generalize w.alloc (.cells #[.slice v.gA k.globals.length v.gc, .slice v.lA k.locks.length v.lc, .slice v.pA k.procs.length v.pc, .slice v.eA k.entry.length v.ec, .slice v.iA k.ins.length v.ic] 28) = W at hbx ⊢
    refine (HW.out _ (hkf.below hbx.1)).mono ?_
    rintro e w1 ⟨rfl, hb1⟩
    go_wp2_with fail
    go_ret
    exact HZ.out _ (below_trans' hbx.1 hb1)
  · have HR := Lib.hid (right_of hok)
    have HW := Lib.hid (fun W (h : CodeAt W w.heap.size v k) => worldOf_yes v k W h hcb (by omega) hok)
    cases hpl : (decide (0 ≤ at_) && decide (at_ < k.procs.length))
    · have HZ := Lib.hid (show ∀ w', Below w.heap.size w w' → NewNats w (procL k at_ (fun x => listN k.procs.length (fun p => OpsP k 4 p x))) (.returned (.slice none 0 0)) w' from fun w' h => newNil (procL_no (and_no2 hpl)) h)
      have HPL := Lib.hid hpl
      clear hok hpl hcb hk
      go_enter Tryz.func57, Tryz.ntmps57
      go_wp2_with fail
      generalize w.alloc (.cells #[.slice v.gA k.globals.length v.gc, .slice v.lA k.locks.length v.lc, .slice v.pA k.procs.length v.pc, .slice v.eA k.entry.length v.ec, .slice v.iA k.ins.length v.ic] 28) = W at hbx ⊢
      refine (HW.out _ (hkf.below hbx.1)).mono ?_
      rintro e w1 ⟨g, rfl, hgl, hW, hb1⟩
      have hbx1 := hbx.to hb1
      obtain ⟨hbw, hsz, c0, c1, c2, c3, c4⟩ := id hbx1
      go_wp2_with fail
      refine (isProc_any g v k _ _ hW.kat (by omega)).mono ?_
      rintro e w2 ⟨rfl, rfl⟩
      have hb2 := Below.refl w1.heap.size w1
      rw [HPL.out]
      go_wp2_with fail
      go_ret
      exact HZ.out _ (below_trans' hbw hb2)
    · obtain ⟨a, rfl, hal⟩ : ∃ a : Nat, at_ = a ∧ a < k.procs.length := by
        simp only [Bool.and_eq_true, decide_eq_true_eq] at hpl
        exact ⟨at_.toNat, by omega, by omega⟩
      have HY := Lib.hid (procL_yes (F := fun x => listN k.procs.length (fun p => OpsP k 4 p x)) hok hal)
      have HPL := Lib.hid hpl
      clear hok hpl hcb hk
      go_enter Tryz.func57, Tryz.ntmps57
      go_wp2_with fail
      generalize w.alloc (.cells #[.slice v.gA k.globals.length v.gc, .slice v.lA k.locks.length v.lc, .slice v.pA k.procs.length v.pc, .slice v.eA k.entry.length v.ec, .slice v.iA k.ins.length v.ic] 28) = W at hbx ⊢
      refine (HW.out _ (hkf.below hbx.1)).mono ?_
      rintro e w1 ⟨g, rfl, hgl, hW, hb1⟩
      have hbx1 := hbx.to hb1
      obtain ⟨hbw, hsz, c0, c1, c2, c3, c4⟩ := id hbx1
      go_wp2_with fail
      refine (isProc_any g v k _ _ hW.kat (by omega)).mono ?_
      rintro e w2 ⟨rfl, rfl⟩
      have hb2 := Below.refl w1.heap.size w1
      rw [HPL.out]
      clear c0 c1 c2 c3 c4
      have hW2 := hW.below hb2
      have hb02 := below_trans' hbw hb2
      have hbx2 := hbx1.to hb2
      clear hbx1 hbw hsz hb2 hb1 hbx
      have HC := Lib.hid (callersIn_any g v k a w1 HR.out hW2 hal)
      go_wp2_with fail
      refine HC.out.mono ?_
      rintro e w3 ⟨A3, c3', rfl, ho3, hb3⟩
      go_wp2_with fail
      go_ret
      exact NewNats.more ⟨A3, c3', rfl, ho3, hb3⟩ hb02 HY.out

theorem l14Main_any {B : Nat} (v : CV) (k : Cd) (w : World) (hr : Right k) (hk : CodeAt w B v k) :
    Calls Tryz.prog 169 #[.agg #[.slice v.gA k.globals.length v.gc, .slice v.lA k.locks.length v.lc, .slice v.pA k.procs.length v.pc, .slice v.eA k.entry.length v.ec, .slice v.iA k.ins.length v.ic]] w fun e w' => e = .returned (.int .i64 (mainN k : Nat)) ∧ Below w.heap.size w w' := by
  have hbx := codeBox w v k
  have hkf := hk.full.below hbx.1
  have hpl := hr.procs
  have HM := Lib.hid (mainN_place hr)
  have HP := Lib.hid (fun (W : World) (h : CodeAt W w.heap.size v k) => placeOf_s v.pA v.pc k.procs mainS W h.p (by omega))
  clear hk hr
  go_enter Tryz.func169, Tryz.ntmps169
  go_wp2_with fail
  generalize w.alloc (.cells #[.slice v.gA k.globals.length v.gc, .slice v.lA k.locks.length v.lc, .slice v.pA k.procs.length v.pc, .slice v.eA k.entry.length v.ec, .slice v.iA k.ins.length v.ic] 28) = W at hbx hkf ⊢
  obtain ⟨hbw, hsz, c0, c1, c2, c3, c4⟩ := id hbx
  go_wp2_with fail
  refine (HP.out _ hkf).mono ?_
  rintro e w1 ⟨rfl, rfl⟩
  rw [HM.out]
  go_wp2_with fail
  go_ret
  exact ⟨rfl, hbw⟩

theorem mem_startL {k : Cd} {x q y : Nat} (h1 : FromP k x q) (h2 : OpsP k 5 q y) (hy : y < k.procs.length) : y ∈ startL k x := mem_listN.2 ⟨hy, q, h1, h2⟩
theorem startL_mem {k : Cd} {x y : Nat} (hx : x < k.procs.length) (h : y ∈ startL k x) : ∃ q, q ∈ listN k.procs.length (FromP k x) ∧ y ∈ listN k.procs.length (OpsP k 5 q) := by
  obtain ⟨hy, q, h1, h2⟩ := mem_listN.1 h
  exact ⟨q, mem_listN.2 ⟨from_lt hx h1, h1⟩, mem_listN.2 ⟨hy, h2⟩⟩

set_option maxHeartbeats 4000000 in
theorem l14Roots_any {B : Nat} (v : CV) (k : Cd) (w : World) (hr : Right k) (hk : CodeAt w B v k) :
    Calls Tryz.prog 105 #[.agg #[.slice v.gA k.globals.length v.gc, .slice v.lA k.locks.length v.lc, .slice v.pA k.procs.length v.pc, .slice v.eA k.entry.length v.ec, .slice v.iA k.ins.length v.ic]] w (NewMarks w (markL k.procs.length (RootP k))) := by
  show Calls Tryz.prog 105 #[.agg #[.slice v.gA k.globals.length v.gc, .slice v.lA k.locks.length v.lc, .slice v.pA k.procs.length v.pc, .slice v.eA k.entry.length v.ec, .slice v.iA k.ins.length v.ic]] w (NewMarks w (markL k.procs.length (Comes (startL k) (mainN k))))
  have hkf := hk.full
  have hbx := codeBox w v k
  have hpl := hr.procs
  have ha := mainN_lt hr
  have HM := Lib.hid (fun W (h : CodeAt W w.heap.size v k) => l14Main_any v k W hr h)
  have HFR := Lib.hid (fun x (hx : x < k.procs.length) W (h : CodeAt W w.heap.size v k) => l10From_any v k x W hr h hx)
  have HMK := Lib.hid (fun x A c W B' (h : Rd W B' A ((markL k.procs.length (FromP k x)).map bv)) => (show Calls Tryz.prog 109 #[.slice A (markL k.procs.length (FromP k x)).length c] W (NewNats W (listN k.procs.length (FromP k x))) from by
    have HD := l09Marked_any A c (markL k.procs.length (FromP k x)) W h (by rw [markL_len]; omega)
    rw [listN_markL] at HD
    exact HD))
  have HOP := Lib.hid (fun q (hq : q < k.procs.length) W (h : CodeAt W w.heap.size v k) => l10Ops_any v k q 5 W hr h hq (.inr rfl))
  clear hk hr
  generalize mainN k = a at *
  go_enter Tryz.func105, Tryz.ntmps105
  go_wp2_with (at_make; generalize w.alloc (.cells #[.slice v.gA k.globals.length v.gc, .slice v.lA k.locks.length v.lc, .slice v.pA k.procs.length v.pc, .slice v.eA k.entry.length v.ec, .slice v.iA k.ins.length v.ic] 28) = W at hbx ⊢; refine make_bools _ rfl _ _ rfl k.procs.length rfl rfl (by omega) ?_; intro w1 hown hb; have hbx1 := hbx.to hb; obtain ⟨q1, q2, c0, c1, c2, c3, c4⟩ := id hbx1)
  have hgm1 := (own_lt hown).2
  have hlt0 := hbx.2.1
  refine (HM.out _ (hkf.below hbx1.1)).mono ?_
  rintro e w2 ⟨rfl, hb2⟩
  have hown2 := own_below hown hb2
  have fz := hown2.frozenAt a
  obtain ⟨u, hu⟩ := own_has hown2 (j := a) (by omega)
  have y1 : (0 : Int) ≤ (a : Int) := by omega
  have y2 : (a : Int) < (k.procs.length : Int) := by omega
  have hbx2 := hbx1.to hb2
  have hG2 : w1.grownBy w2 (some W.heap.size) := grownBelow (World.grownBy.refl _ _) hb2
  clear q1 q2 c0 c1 c2 c3 c4
  have hst := own_stored hown2 a
  have hG3 := hG2.trans hst.2
  have hbx3 := hbx2.grown hst.2 hlt0
  obtain ⟨q1, q2, c0, c1, c2, c3, c4⟩ := id hbx3
  go_wp2_with fail
  refine (HM.out _ (hkf.below hbx3.1)).mono ?_
  rintro e w3 ⟨rfl, hb3⟩
  have hown4 := own_below hst.1 hb3
  have hG4 := grownBelow hG3 hb3
  clear hown hown2 hst hG2 hG3 hbx2 hbx3 hb2 hb3 fz hu y1 y2 q1 q2 c0 c1 c2 c3 c4
  go_wp2_with fail
  have HFIN := Lib.hid (show ∀ m td xs ms wr, Spr w1 W.heap.size W.heap.size k.procs.length k.procs.length (startL k) a ((List.replicate k.procs.length false).set a true) m td xs [] ms wr → NewMarks w (markL k.procs.length (Comes (startL k) a)) (.returned (.slice (some ⟨W.heap.size, 0, none⟩) k.procs.length k.procs.length)) wr from fun m td xs ms wr h => by
    have e := h.srch.one ha
    subst e
    refine ⟨some ⟨W.heap.size, 0, none⟩, k.procs.length, by rw [markL_len], by rw [markL_len]; exact own_mono h.marks (by omega), ?_⟩
    exact hbx1.1.trans (below_grown h.grown (by omega) (by omega)))
  have hS : Spr w1 W.heap.size W.heap.size k.procs.length k.procs.length (startL k) a ((List.replicate k.procs.length false).set a true) (2 * k.procs.length + 1) (.slice (some ⟨w3.heap.size, 0, none⟩) 1 1) [a] [a] ((List.replicate k.procs.length false).set a true) (w3.alloc (.cells #[.int .i64 a] 3)) := by
    have hun := unm_le ((List.replicate k.procs.length false).set a true)
    simp only [List.length_set, List.length_replicate] at hun
    refine ⟨?_, .start (by simpa using ha), hown4.alloc _, hG4.trans (World.grownBy_alloc _ _ _), by omega, by simp; omega, by simp; omega⟩
    have := World.ownsRow_lit (base := w1.heap.size) (e := 3) (size := 1) w3 #[.int .i64 a] 1 (hG4.size) (by unfold maxLen; omega) (by simp)
    simpa [nv, natI, iv] using this
  clear hown4 hG4 hb hbx
  go_loopg [4, 5] (2 * k.procs.length + 1) (fun m td i wr => ∃ (h : Nat) (xs : List Nat) (ms : List Bool), i = .int .i64 h ∧ h ≤ xs.length ∧ Spr w1 W.heap.size W.heap.size k.procs.length k.procs.length (startL k) a ((List.replicate k.procs.length false).set a true) m td xs (xs.drop h) ms wr)
  case atStart => exact ⟨0, [a], _, rfl, by simp, hS⟩
  case round =>
    clear hS
    obtain ⟨h, xs, ms, rfl, hh, hS⟩ := hrel
    obtain ⟨A, ct, rfl⟩ := own_form hS.todo
    have hcn := hS.cnt
    have hbxr := hbx1.grown hS.grown hlt0
    obtain ⟨hbw, hsz, c0, c1, c2, c3, c4⟩ := id hbxr
    by_cases hlt : h < xs.length
    · have hdr : xs.drop h = xs[h] :: xs.drop (h + 1) := List.drop_eq_getElem_cons hlt
      rw [hdr] at hS
      have hxl : xs[h] < k.procs.length := by have := (hS.srch.td xs[h] (List.mem_cons_self ..)).1; rw [hS.len] at this; exact this
      clear hdr
      obtain ⟨ad, rfl, hbl, hcx⟩ := (own_rd hS.todo).nat hlt
      generalize xs[h] = x at *
      have z1 : (0 : Int) ≤ (h : Int) := by omega
      have z2 : (h : Int) < (xs.length : Int) := by omega
      have HMX := Lib.hid (HMK.out x)
      go_wp2_with fail
      go_region_held3 (fun w' => Below wr.heap.size wr w' ∧ w'.cell? ⟨w.heap.size, 0, none⟩ = some (.slice v.gA k.globals.length v.gc) ∧ w'.cell? ⟨w.heap.size, 1, none⟩ = some (.slice v.lA k.locks.length v.lc) ∧
          w'.cell? ⟨w.heap.size, 2, none⟩ = some (.slice v.pA k.procs.length v.pc) ∧ w'.cell? ⟨w.heap.size, 3, none⟩ = some (.slice v.eA k.entry.length v.ec) ∧ w'.cell? ⟨w.heap.size, 4, none⟩ = some (.slice v.iA k.ins.length v.ic) ∧ w'.cell? (ad.add h) = some (.int .i64 x))
        (first | exact ⟨(Below.refl _ _).drew, c0, c1, c2, c3, c4, hcx⟩ | assumption | (go_split_ands; refine ⟨below_trans' (by assumption) hb1, ?_, ?_, ?_, ?_, ?_, ?_⟩ <;> exact cell_below hb1 (by assumption)))
        (first | (go_at_call 170; go_split_ands; refine (HFR.out x hxl _ (hkf.below (below_trans' hbw (by assumption)))).mono ?_; rintro e w4 ⟨Am, cm, rfl, hom, hb1⟩; have hbF := hb1) | (go_at_call 109; go_split_ands; refine (HMX.out Am cm _ _ (own_rd hom)).mono ?_; rintro e w5 ⟨Af, cf, rfl, hof, hb1⟩))
      rename_i hS5
      have HB5 := hS5.1
      have hsF : wr.heap.size ≤ w4.heap.size := hbF.size
      have hP := hS.below HB5
      have hszo := hS.grown.size
      have hapf : Apart (.slice Af (listN k.procs.length (FromP k x)).length cf) (.slice (some ad) xs.length ct) := fun b h1 h2 => by
        have h3 := (hof.lt b h1).1
        have h4 := (hS.todo.lt b h2).2
        omega
      have hfl := listN_len k.procs.length (FromP k x)
      have HFS := Lib.hid (show ∀ q ∈ listN k.procs.length (FromP k x), q < k.procs.length ∧ FromP k x q from fun q hq => mem_listN.1 hq)
      have HDN := Lib.hid (fun (P : Nat → Prop) (hP : ∀ q ∈ listN k.procs.length (FromP k x), ∀ y ∈ listN k.procs.length (OpsP k 5 q), P y) => show ∀ y ∈ startL k x, P y from fun y hy => by
        obtain ⟨q, h1, h2⟩ := startL_mem hxl hy
        exact hP q h1 y h2)
      generalize listN k.procs.length (FromP k x) = fs at hof hapf hfl HFS HDN ⊢
      obtain ⟨lf, hlf, hof⟩ : ∃ lf, W.heap.size < lf ∧ w5.ownsRow lf 3 1 (.slice Af fs.length cf) fs.length (nv fs) := ⟨w4.heap.size, by
        omega, hof⟩
      clear hS5 hbF HB5
      clear hS hcx hbl hb1 hom c0 c1 c2 c3 c4 hbxr hbw hsz
      go_wp2_with fail
      obtain ⟨wo, rfl⟩ : ∃ wo : World, wo = wr := ⟨_, rfl⟩
      obtain ⟨go, rfl⟩ : ∃ go : Nat, go = gk := ⟨_, rfl⟩
      go_loopg [4, 7] fs.length (fun l td i wr => ∃ (f : Nat) (xs : List Nat) (ms2 : List Bool), f ≤ fs.length ∧ l = fs.length - f ∧ i = .int .i64 f ∧ h + 1 ≤ xs.length ∧ Spr w1 W.heap.size W.heap.size k.procs.length k.procs.length (startL k) a ((List.replicate k.procs.length false).set a true) go td xs (x :: xs.drop (h + 1)) ms2 wr ∧ (∀ q ∈ fs.take f, ∀ y ∈ listN k.procs.length (OpsP k 5 q), mkd ms2 y = true) ∧ wr.ownsRow lf 3 1 (.slice Af fs.length cf) fs.length (nv fs) ∧ Apart (.slice Af fs.length cf) td)
      case atStart => exact ⟨0, xs, ms, by omega, by omega, rfl, hlt, hP, by simp, hof, hapf⟩
      case round =>
        clear hP hof hapf
        obtain ⟨f, xs, ms1, hf, rfl, rfl, hh2, hPo, hall, hofo, hapf⟩ := hrel
        have HALF := Lib.hid hall
        clear hall
        obtain ⟨A2, c2', rfl⟩ := own_form hPo.todo
        have hbxr := hbx1.grown hPo.grown hlt0
        obtain ⟨hbw, hsz, c0, c1, c2, c3, c4⟩ := id hbxr
        by_cases hltf : f < fs.length
        · obtain ⟨adf, rfl, hblf, hcf⟩ := (own_rd hofo).nat hltf
          have hqf := HFS.out fs[f] (List.getElem_mem hltf)
          have HTF := Lib.hid (fun P => take_all (P := P) hltf)
          generalize fs[f] = q at *
          have hql := hqf.1
          have HQF := Lib.hid hqf.2
          have z1 : (0 : Int) ≤ (f : Int) := by omega
          have z2 : (f : Int) < (fs.length : Int) := by omega
          clear hqf
          go_wp2_with fail
          go_region_held3 (fun w' => Below wr.heap.size wr w' ∧ w'.cell? ⟨w.heap.size, 0, none⟩ = some (.slice v.gA k.globals.length v.gc) ∧ w'.cell? ⟨w.heap.size, 1, none⟩ = some (.slice v.lA k.locks.length v.lc) ∧
          w'.cell? ⟨w.heap.size, 2, none⟩ = some (.slice v.pA k.procs.length v.pc) ∧ w'.cell? ⟨w.heap.size, 3, none⟩ = some (.slice v.eA k.entry.length v.ec) ∧ w'.cell? ⟨w.heap.size, 4, none⟩ = some (.slice v.iA k.ins.length v.ic) ∧ w'.cell? (adf.add f) = some (.int .i64 q))
            (first | exact ⟨(Below.refl _ _).drew, c0, c1, c2, c3, c4, hcf⟩ | assumption | (go_split_ands; refine ⟨below_trans' (by assumption) hb1, ?_, ?_, ?_, ?_, ?_, ?_⟩ <;> exact cell_below hb1 (by assumption)))
            (first | (go_at_call 130; go_split_ands; refine (HOP.out q hql _ (hkf.below (below_trans' hbw (by assumption)))).mono ?_; rintro e w2 ⟨An, cn, rfl, hon, hb1⟩))
          have hb2 : Below wr.heap.size wr w2 := below_trans' ((Below.refl _ _).drew) hb1
          have hP := hPo.below hb2
          have hof := own_below hofo hb2
          have hap : Apart (.slice An (listN k.procs.length (OpsP k 5 q)).length cn) (.slice A2 xs.length c2') := fun b h1 h2 => by
            have h3 : wr.heap.size ≤ b := (hon.lt b h1).1
            have h4 := (hPo.todo.lt b h2).2
            omega
          have hon : w2.ownsRow wr.heap.size 3 1 (.slice An (listN k.procs.length (OpsP k 5 q)).length cn) (listN k.procs.length (OpsP k 5 q)).length (nv (listN k.procs.length (OpsP k 5 q))) := hon
          have hszo2 := hPo.grown.size
          clear hcf hblf hb1 hb2 c0 c1 c2 c3 c4 hbxr hbw hsz hPo hofo
          have HXN := Lib.hid (show ∀ y ∈ listN k.procs.length (OpsP k 5 q), y < k.procs.length ∧ y ∈ startL k x from fun y hy => ⟨(mem_listN.1 hy).1, mem_startL HQF.out (mem_listN.1 hy).2 (mem_listN.1 hy).1⟩)
          have hnl := listN_len k.procs.length (OpsP k 5 q)
          generalize hns : listN k.procs.length (OpsP k 5 q) = ns at hon hap HXN hnl ⊢
          have HNS := Lib.hid hns
          clear hns
          go_wp2_with fail
          obtain ⟨wi, rfl⟩ : ∃ wi : World, wi = wr := ⟨_, rfl⟩
          go_loopg [4, 9] ns.length (fun l td i wr => ∃ (j : Nat) (xs : List Nat) (ms2 : List Bool), j ≤ ns.length ∧ l = ns.length - j ∧ i = .int .i64 j ∧ h + 1 ≤ xs.length ∧ Spr w1 W.heap.size W.heap.size k.procs.length k.procs.length (startL k) a ((List.replicate k.procs.length false).set a true) go td xs (x :: xs.drop (h + 1)) ms2 wr ∧ Mks ms2 ms1 ∧ (∀ y ∈ ns.take j, mkd ms2 y = true) ∧ wr.ownsRow wi.heap.size 3 1 (.slice An ns.length cn) ns.length (nv ns) ∧ Apart (.slice An ns.length cn) td ∧ wr.ownsRow lf 3 1 (.slice (some adf) fs.length cf) fs.length (nv fs) ∧ Apart (.slice (some adf) fs.length cf) td)
          case atStart => exact ⟨0, xs, ms1, by omega, by omega, rfl, hh2, hP, Mks.refl _, by simp, hon, hap, hof, hapf⟩
          case round =>
            clear hP hon hap hof hapf
            obtain ⟨j, xs, ms2, hj, rfl, rfl, hh2, hP, hmk1, hall, hon, hap, hof, hapf⟩ := hrel
            have HALL := Lib.hid hall
            have HM1 := Lib.hid hmk1
            clear hall hmk1
            obtain ⟨A3, c3', rfl⟩ := own_form hP.todo
            by_cases hltj : j < ns.length
            · obtain ⟨adn, rfl, _, hcj⟩ := (own_rd hon).nat hltj
              have hyl := (HXN.out ns[j] (List.getElem_mem hltj)).1
              have HY := Lib.hid (HXN.out ns[j] (List.getElem_mem hltj)).2
              have hml := hP.len
              have HML := Lib.hid hml
              have hcm := own_at hP.marks (j := ns[j]) hyl (u := .bool (mkd ms2 ns[j])) (by rw [List.getElem?_map, List.getElem?_eq_getElem (by omega), mkd_get (by omega)]; rfl)
              have HT := Lib.hid (fun P => take_all (P := P) hltj)
              clear hml
              generalize ns[j] = y at *
              have z1 : (0 : Int) ≤ (y : Int) := by omega
              have z2 : (y : Int) < (k.procs.length : Int) := by omega
              cases hmk : mkd ms2 y
              · rw [hmk] at hcm
                have HMK := Lib.hid hmk
                clear hmk
                have hfz := hP.marks.frozenAt y
                obtain ⟨s0, s1, s2⟩ := hP.mark hyl HMK.out (x := x) (List.mem_cons_self ..) HY.out
                have hsz := hP.grown.size
                have hcn := hP.cnt
                have hcj2 := s2.cell hcj (by
                  intro h1
                  rw [block_of_add] at h1
                  have h2 := (hon.lt adn.block rfl).1
                  injection h1 with h1
                  omega)
                have hbl2 : (adn.add j).block ≠ W.heap.size := by
                  rw [block_of_add]
                  have h2 := (hon.lt adn.block rfl).1
                  omega
                go_wp2_with (at_builtin; refine append_int2 rfl _ _ rfl s0 rfl rfl (by simp) (by omega) (by simpa using hsz) ?_; intro A' c' w2 ho2 hg2 hl2)
                go_roundg (ns.length - (j + 1))
                case measure => omega
                case rel =>
                  have hon1 := hon.kept s2 (.inr (by
                    intro h1
                    have := (hon.lt W.heap.size h1).1
                    have := hP.grown.size
                    omega))
                  have hof1 := hof.kept s2 (.inr (by
                    intro h1
                    have := (hof.lt W.heap.size h1).1
                    omega))
                  have hpu := hP.push hyl HMK.out (x := x) (List.mem_cons_self ..) HY.out ho2 hg2
                  rw [List.cons_append, ← List.drop_append_of_le_length hh2] at hpu
                  refine ⟨j + 1, xs ++ [y], ms2.set y true, by omega, rfl, by go_num, by simp; omega, hpu.mono (by omega), (mks_set _ _).trans HM1.out, HT.out (fun z => mkd (ms2.set y true) z = true) (fun z hz => ?_) ?_, hon1.kept hg2 hap.kept, ?_, hof1.kept hg2 hapf.kept, ?_⟩
                  · rw [mkd_set (by have := HML.out; omega)]
                    split
                    · rfl
                    · exact HALL.out z hz
                  · rw [mkd_set (by have := HML.out; omega), if_pos rfl]
                  · intro b h1 h2
                    rcases hl2 with h3 | h3
                    · rw [h3] at h2; exact hap b h1 h2
                    · rw [h3] at h2
                      have := (hon.lt b h1).2
                      injection h2 with h2
                      simp at h2
                      omega
                  · intro b h1 h2
                    rcases hl2 with h3 | h3
                    · rw [h3] at h2; exact hapf b h1 h2
                    · rw [h3] at h2
                      have := (hof.lt b h1).2
                      injection h2 with h2
                      simp at h2
                      omega
              · rw [hmk] at hcm
                have HMK := Lib.hid hmk
                clear hmk
                go_wp2_with fail
                go_roundg (ns.length - (j + 1))
                case measure => omega
                case rel => exact ⟨j + 1, xs, ms2, by omega, rfl, by go_num, hh2, hP, HM1.out, HT.out _ HALL.out HMK.out, hon, hap, hof, hapf⟩
            · obtain rfl : j = ns.length := by omega
              go_wp2_with fail
              go_roundg (fs.length - (f + 1))
              case measure => omega
              case rel =>
                have h1 := HALL.out
                rw [List.take_length] at h1
                have h2 : ∀ q' ∈ fs.take (f + 1), ∀ y ∈ listN k.procs.length (OpsP k 5 q'), mkd ms2 y = true := HTF.out _ (fun q' hq' y hy => HM1.out.2 y (HALF.out q' hq' y hy)) (by rw [HNS.out]; exact h1)
                exact ⟨f + 1, xs, ms2, by omega, rfl, by go_num, hh2, hP, h2, hof, hapf⟩
        · obtain rfl : f = fs.length := by omega
          have hcn := hPo.cnt
          go_wp2_with fail
          go_roundg (go - 1)
          case measure => have := hPo.pos; omega
          case rel =>
            have h1 := HALF.out
            rw [List.take_length] at h1
            exact ⟨h + 1, xs, ms1, by go_num, hh2, hPo.done (HDN.out _ h1)⟩
    · obtain rfl : h = xs.length := by omega
      go_wp2_with fail
      go_ret
      rw [List.drop_length] at hS
      exact HFIN.out _ _ _ _ _ hS
end Go.Proofs.YtkgoajnnkimkaaaGreat
