/- Contracts of CallsOf, SpawnsOf, CallsFrom, of the program and of the reference; of l10From. -/
import Derived.Test.YtkgoajnnkimkaaaGreatD2
set_option linter.unusedSimpArgs false
set_option linter.unusedVariables false
namespace Go.Proofs.YtkgoajnnkimkaaaGreat
open Go.ChangeShapes Go.WideShapes Go.ChangeAt Go.RowKit
/-- One entry of a table behind a cell. -/
theorem TabAt.get {W : World} {B g j : Nat} {k : Cd} {f : Nat → Nat} (h : TabAt W B g j (tabL k f)) {p : Nat} (hp : p < k.procs.length) : ∃ ad c, W.cell? ⟨g, j, none⟩ = some (.slice (some ad) k.procs.length c) ∧ W.cell? (ad.add p) = some (.int .i64 (f p : Nat)) := by
  obtain ⟨A, c, h1, h2⟩ := h
  obtain ⟨ad, e, _, hc⟩ := h2 p (.int .i64 (f p : Nat)) (nv_get (tabL_get hp))
  subst e
  rw [tabL_len] at h1
  exact ⟨ad, c, h1, hc⟩
theorem two60 {k : Cd} (hr : Right k) {s : Nat} (hs : s < 2 ^ k.procs.length) : s < 4611686018427387904 := by
  have := pow_le_256 hr
  omega

set_option maxHeartbeats 1000000 in
theorem callsOf_i {B L : Nat} (v : CV) (k : Cd) (at_ : Int) (w : World) (hk : CodeAt w B v k) (hcb : CdB L k) (hL : L ≤ 1048576) :
    Calls Tryz.prog 55 #[.agg #[.slice v.gA k.globals.length v.gc, .slice v.lA k.locks.length v.lc, .slice v.pA k.procs.length v.pc, .slice v.eA k.entry.length v.ec, .slice v.iA k.ins.length v.ic], .int .i64 at_] w (NewNats w (procL k at_ (fun p => listN k.procs.length (OpsP k 4 p)))) := by
  have hkf := hk.full
  have hbx := codeBox w v k
  have hpl0 := hcb.procs
  have hil0 := hcb.ins
  cases hok : codeOkI k
  · have HW := Lib.hid (fun W (h : CodeAt W w.heap.size v k) => worldOf_no v k W h hcb (by omega) hok)
    have HZ := Lib.hid (show ∀ w', Below w.heap.size w w' → NewNats w (procL k at_ (fun p => listN k.procs.length (OpsP k 4 p))) (.returned (.slice none 0 0)) w' from fun w' h => newNil (procL_no (and_no1 hok)) h)
    clear hok hcb hk
    go_enter Tryz.func55, Tryz.ntmps55
    go_wp2_with fail
    generalize w.alloc (.cells #[.slice v.gA k.globals.length v.gc, .slice v.lA k.locks.length v.lc, .slice v.pA k.procs.length v.pc, .slice v.eA k.entry.length v.ec, .slice v.iA k.ins.length v.ic] 28) = W at hbx ⊢
    refine (HW.out _ (hkf.below hbx.1)).mono ?_
    rintro e w1 ⟨rfl, hb1⟩
    go_wp2_with fail
    go_ret
    exact HZ.out _ (below_trans' hbx.1 hb1)
  · have HR := Lib.hid (right_of hok)
    have HW := Lib.hid (fun W (h : CodeAt W w.heap.size v k) => worldOf_yes v k W h hcb (by omega) hok)
    cases hpl : (decide (0 ≤ at_) && decide (at_ < k.procs.length))
    · have HZ := Lib.hid (show ∀ w', Below w.heap.size w w' → NewNats w (procL k at_ (fun p => listN k.procs.length (OpsP k 4 p))) (.returned (.slice none 0 0)) w' from fun w' h => newNil (procL_no (and_no2 hpl)) h)
      have HPL := Lib.hid hpl
      clear hok hpl hcb hk
      go_enter Tryz.func55, Tryz.ntmps55
      go_wp2_with fail
      generalize w.alloc (.cells #[.slice v.gA k.globals.length v.gc, .slice v.lA k.locks.length v.lc, .slice v.pA k.procs.length v.pc, .slice v.eA k.entry.length v.ec, .slice v.iA k.ins.length v.ic] 28) = W at hbx ⊢
      refine (HW.out _ (hkf.below hbx.1)).mono ?_
      rintro e w1 ⟨g, rfl, hgl, hW, hb1⟩
      have hbx1 := hbx.to hb1
      obtain ⟨hbw, hsz, c0, c1, c2, c3, c4⟩ := id hbx1
      go_wp2_with fail
      refine (isProc_any g v k _ _ hW.kat (by omega)).mono ?_
      rintro e w2 ⟨rfl, rfl⟩
      have hb2 := Below.refl w1.heap.size w1
      rw [HPL.out]
      go_wp2_with fail
      go_ret
      exact HZ.out _ (below_trans' hbw hb2)
    · obtain ⟨a, rfl, hal⟩ : ∃ a : Nat, at_ = a ∧ a < k.procs.length := by
        simp only [Bool.and_eq_true, decide_eq_true_eq] at hpl
        exact ⟨at_.toNat, by omega, by omega⟩
      have HY := Lib.hid (procL_yes (F := fun p => listN k.procs.length (OpsP k 4 p)) hok hal)
      have HPL := Lib.hid hpl
      clear hok hpl hcb hk
      go_enter Tryz.func55, Tryz.ntmps55
      go_wp2_with fail
      generalize w.alloc (.cells #[.slice v.gA k.globals.length v.gc, .slice v.lA k.locks.length v.lc, .slice v.pA k.procs.length v.pc, .slice v.eA k.entry.length v.ec, .slice v.iA k.ins.length v.ic] 28) = W at hbx ⊢
      refine (HW.out _ (hkf.below hbx.1)).mono ?_
      rintro e w1 ⟨g, rfl, hgl, hW, hb1⟩
      have hbx1 := hbx.to hb1
      obtain ⟨hbw, hsz, c0, c1, c2, c3, c4⟩ := id hbx1
      go_wp2_with fail
      refine (isProc_any g v k _ _ hW.kat (by omega)).mono ?_
      rintro e w2 ⟨rfl, rfl⟩
      have hb2 := Below.refl w1.heap.size w1
      rw [HPL.out]
      clear c0 c1 c2 c3 c4
      have hW2 := hW.below hb2
      have hb02 := below_trans' hbw hb2
      have hbx2 := hbx1.to hb2
      clear hbx1 hbw hsz hb2 hb1 hbx
      obtain ⟨ad, ct, h6, hc6⟩ := hW2.calls.get hal
      have hpl := HR.out.procs
      have HB := bitsOf_nats (opsT k 4 a) w1 (two60 HR.out (setN_lt _ _))
      unfold opsT at HB
      rw [bitsTo_setN (by omega)] at HB
      have HB := Lib.hid HB
      unfold opsT at hc6
      have z1 : (0 : Int) ≤ (a : Int) := by omega
      have z2 : (a : Int) < (k.procs.length : Int) := by omega
      go_wp2_with fail
      refine HB.out.mono ?_
      rintro e w3 ⟨A3, c3, rfl, ho3, hb3⟩
      go_wp2_with fail
      go_ret
      exact NewNats.more ⟨A3, c3, rfl, ho3, hb3⟩ hb02 HY.out

set_option maxHeartbeats 1000000 in
theorem spawnsOf_i {B L : Nat} (v : CV) (k : Cd) (at_ : Int) (w : World) (hk : CodeAt w B v k) (hcb : CdB L k) (hL : L ≤ 1048576) :
    Calls Tryz.prog 59 #[.agg #[.slice v.gA k.globals.length v.gc, .slice v.lA k.locks.length v.lc, .slice v.pA k.procs.length v.pc, .slice v.eA k.entry.length v.ec, .slice v.iA k.ins.length v.ic], .int .i64 at_] w (NewNats w (procL k at_ (fun p => listN k.procs.length (OpsP k 5 p)))) := by
  have hkf := hk.full
  have hbx := codeBox w v k
  have hpl0 := hcb.procs
  have hil0 := hcb.ins
  cases hok : codeOkI k
  · have HW := Lib.hid (fun W (h : CodeAt W w.heap.size v k) => worldOf_no v k W h hcb (by omega) hok)
    have HZ := Lib.hid (show ∀ w', Below w.heap.size w w' → NewNats w (procL k at_ (fun p => listN k.procs.length (OpsP k 5 p))) (.returned (.slice none 0 0)) w' from fun w' h => newNil (procL_no (and_no1 hok)) h)
    clear hok hcb hk
    go_enter Tryz.func59, Tryz.ntmps59
    go_wp2_with fail
    generalize w.alloc (.cells #[.slice v.gA k.globals.length v.gc, .slice v.lA k.locks.length v.lc, .slice v.pA k.procs.length v.pc, .slice v.eA k.entry.length v.ec, .slice v.iA k.ins.length v.ic] 28) = W at hbx ⊢
    refine (HW.out _ (hkf.below hbx.1)).mono ?_
    rintro e w1 ⟨rfl, hb1⟩
    go_wp2_with fail
    go_ret
    exact HZ.out _ (below_trans' hbx.1 hb1)
  · have HR := Lib.hid (right_of hok)
    have HW := Lib.hid (fun W (h : CodeAt W w.heap.size v k) => worldOf_yes v k W h hcb (by omega) hok)
    cases hpl : (decide (0 ≤ at_) && decide (at_ < k.procs.length))
    · have HZ := Lib.hid (show ∀ w', Below w.heap.size w w' → NewNats w (procL k at_ (fun p => listN k.procs.length (OpsP k 5 p))) (.returned (.slice none 0 0)) w' from fun w' h => newNil (procL_no (and_no2 hpl)) h)
      have HPL := Lib.hid hpl
      clear hok hpl hcb hk
      go_enter Tryz.func59, Tryz.ntmps59
      go_wp2_with fail
      generalize w.alloc (.cells #[.slice v.gA k.globals.length v.gc, .slice v.lA k.locks.length v.lc, .slice v.pA k.procs.length v.pc, .slice v.eA k.entry.length v.ec, .slice v.iA k.ins.length v.ic] 28) = W at hbx ⊢
      refine (HW.out _ (hkf.below hbx.1)).mono ?_
      rintro e w1 ⟨g, rfl, hgl, hW, hb1⟩
      have hbx1 := hbx.to hb1
      obtain ⟨hbw, hsz, c0, c1, c2, c3, c4⟩ := id hbx1
      go_wp2_with fail
      refine (isProc_any g v k _ _ hW.kat (by omega)).mono ?_
      rintro e w2 ⟨rfl, rfl⟩
      have hb2 := Below.refl w1.heap.size w1
      rw [HPL.out]
      go_wp2_with fail
      go_ret
      exact HZ.out _ (below_trans' hbw hb2)
    · obtain ⟨a, rfl, hal⟩ : ∃ a : Nat, at_ = a ∧ a < k.procs.length := by
        simp only [Bool.and_eq_true, decide_eq_true_eq] at hpl
        exact ⟨at_.toNat, by omega, by omega⟩
      have HY := Lib.hid (procL_yes (F := fun p => listN k.procs.length (OpsP k 5 p)) hok hal)
      have HPL := Lib.hid hpl
      clear hok hpl hcb hk
      go_enter Tryz.func59, Tryz.ntmps59
      go_wp2_with fail
      generalize w.alloc (.cells #[.slice v.gA k.globals.length v.gc, .slice v.lA k.locks.length v.lc, .slice v.pA k.procs.length v.pc, .slice v.eA k.entry.length v.ec, .slice v.iA k.ins.length v.ic] 28) = W at hbx ⊢
      refine (HW.out _ (hkf.below hbx.1)).mono ?_
      rintro e w1 ⟨g, rfl, hgl, hW, hb1⟩
      have hbx1 := hbx.to hb1
      obtain ⟨hbw, hsz, c0, c1, c2, c3, c4⟩ := id hbx1
      go_wp2_with fail
      refine (isProc_any g v k _ _ hW.kat (by omega)).mono ?_
      rintro e w2 ⟨rfl, rfl⟩
      have hb2 := Below.refl w1.heap.size w1
      rw [HPL.out]
      clear c0 c1 c2 c3 c4
      have hW2 := hW.below hb2
      have hb02 := below_trans' hbw hb2
      have hbx2 := hbx1.to hb2
      clear hbx1 hbw hsz hb2 hb1 hbx
      obtain ⟨ad, ct, h6, hc6⟩ := hW2.spawns.get hal
      have hpl := HR.out.procs
      have HB := bitsOf_nats (opsT k 5 a) w1 (two60 HR.out (setN_lt _ _))
      unfold opsT at HB
      rw [bitsTo_setN (by omega)] at HB
      have HB := Lib.hid HB
      unfold opsT at hc6
      have z1 : (0 : Int) ≤ (a : Int) := by omega
      have z2 : (a : Int) < (k.procs.length : Int) := by omega
      go_wp2_with fail
      refine HB.out.mono ?_
      rintro e w3 ⟨A3, c3, rfl, ho3, hb3⟩
      go_wp2_with fail
      go_ret
      exact NewNats.more ⟨A3, c3, rfl, ho3, hb3⟩ hb02 HY.out

set_option maxHeartbeats 1000000 in
theorem spawnsOf_s {B L : Nat} (v : CV) (k : Cd) (at_ : Int) (w : World) (hk : CodeAt w B v k) (hcb : CdB L k) (hL : L ≤ 1048576) :
    Calls Tryz.prog 60 #[.agg #[.slice v.gA k.globals.length v.gc, .slice v.lA k.locks.length v.lc, .slice v.pA k.procs.length v.pc, .slice v.eA k.entry.length v.ec, .slice v.iA k.ins.length v.ic], .int .i64 at_] w (NewNats w (procL k at_ (fun p => listN k.procs.length (OpsP k 5 p)))) := by
  have hkf := hk.full
  have hbx := codeBox w v k
  have hpl0 := hcb.procs
  have hil0 := hcb.ins
  have HG := Lib.hid (fun W (h : CodeAt W w.heap.size v k) => l10Ok_any v k at_ W h hcb (by omega))
  cases hok : (codeOkI k && (decide (0 ≤ at_) && decide (at_ < k.procs.length)))
  · have HZ := Lib.hid (show ∀ W, Below w.heap.size w W → NewNats w (procL k at_ (fun p => listN k.procs.length (OpsP k 5 p))) (.returned (.slice (some ⟨W.heap.size, 0, none⟩) 0 0)) (W.alloc (.cells #[] 3)) from fun W h => newNil0 (procL_no hok) h)
    rw [hok] at HG
    clear hok hcb hk
    go_enter Tryz.func60, Tryz.ntmps60
    go_wp2_with fail
    generalize w.alloc (.cells #[.slice v.gA k.globals.length v.gc, .slice v.lA k.locks.length v.lc, .slice v.pA k.procs.length v.pc, .slice v.eA k.entry.length v.ec, .slice v.iA k.ins.length v.ic] 28) = W at hbx ⊢
    refine (HG.out _ (hkf.below hbx.1)).mono ?_
    rintro e w1 ⟨rfl, hb1⟩
    go_wp2_with fail
    go_ret
    exact HZ.out _ (below_trans' hbx.1 hb1)
  · rw [hok] at HG
    obtain ⟨hok1, a, rfl, hal⟩ : codeOkI k = true ∧ ∃ a : Nat, at_ = a ∧ a < k.procs.length := by
      simp only [Bool.and_eq_true, decide_eq_true_eq] at hok
      exact ⟨hok.1, at_.toNat, by omega, by omega⟩
    have HR := Lib.hid (right_of hok1)
    have HY := Lib.hid (procL_yes (F := fun p => listN k.procs.length (OpsP k 5 p)) hok1 hal)
    clear hok hok1 hcb hk
    go_enter Tryz.func60, Tryz.ntmps60
    go_wp2_with fail
    generalize w.alloc (.cells #[.slice v.gA k.globals.length v.gc, .slice v.lA k.locks.length v.lc, .slice v.pA k.procs.length v.pc, .slice v.eA k.entry.length v.ec, .slice v.iA k.ins.length v.ic] 28) = W at hbx ⊢
    refine (HG.out _ (hkf.below hbx.1)).mono ?_
    rintro e w2 ⟨rfl, hb2⟩
    have hbx2 := hbx.to hb2
    clear hbx hb2
    have hk2 := hkf.below hbx2.1
    have hb02 := hbx2.1
    obtain ⟨_, _, c0, c1, c2, c3, c4⟩ := id hbx2
    have HC := Lib.hid (l10Ops_any v k a 5 w2 HR.out hk2 hal (by simp))
    go_wp2_with fail
    refine HC.out.mono ?_
    rintro e w3 ⟨A3, c3', rfl, ho3, hb3⟩
    go_wp2_with fail
    go_ret
    exact NewNats.more ⟨A3, c3', rfl, ho3, hb3⟩ hb02 HY.out

theorem own_stored {w : World} {base g n c : Nat} {ms : List Bool} (h : w.ownsRow base 4 1 (.slice (some ⟨g, 0, none⟩) n c) n (ms.map bv)) (a : Nat) : (w.setCell ⟨g, a, none⟩ (.bool true)).ownsRow base 4 1 (.slice (some ⟨g, 0, none⟩) n c) n ((ms.set a true).map bv) ∧ w.grownBy (w.setCell ⟨g, a, none⟩ (.bool true)) (some g) := by
  obtain ⟨s1, s2⟩ := h.stored a (bv true)
  rw [bv_set] at s1
  exact ⟨s1, s2⟩

set_option maxHeartbeats 1000000 in
theorem l10From_any {B : Nat} (v : CV) (k : Cd) (a : Nat) (w : World) (hr : Right k) (hk : CodeAt w B v k) (ha : a < k.procs.length) :
    Calls Tryz.prog 170 #[.agg #[.slice v.gA k.globals.length v.gc, .slice v.lA k.locks.length v.lc, .slice v.pA k.procs.length v.pc, .slice v.eA k.entry.length v.ec, .slice v.iA k.ins.length v.ic], .int .i64 a] w (NewMarks w (markL k.procs.length (FromP k a))) := by
  have hkf := hk.full
  have hbx := codeBox w v k
  have hins : k.procs.length ≤ 1500 := by have := hr.procs; omega
  have HR := Lib.hid (fun x n (hx : x < k.procs.length) (hn : n ∈ callL k x) => (mem_listN.1 hn).1)
  have HNX := Lib.hid (fun x (hx : x < k.procs.length) W (h : CodeAt W w.heap.size v k) => (show Calls Tryz.prog 130 #[.agg #[.slice v.gA k.globals.length v.gc, .slice v.lA k.locks.length v.lc, .slice v.pA k.procs.length v.pc, .slice v.eA k.entry.length v.ec, .slice v.iA k.ins.length v.ic], .int .i64 x, .int .i64 4] W (NewNats W (callL k x)) from l10Ops_any v k x 4 W hr h hx (.inl rfl)))
  clear hk hr
  go_enter Tryz.func170, Tryz.ntmps170
  go_wp2_with (at_make; generalize w.alloc (.cells #[.slice v.gA k.globals.length v.gc, .slice v.lA k.locks.length v.lc, .slice v.pA k.procs.length v.pc, .slice v.eA k.entry.length v.ec, .slice v.iA k.ins.length v.ic] 28) = W at hbx ⊢; refine make_bools _ rfl _ _ rfl k.procs.length rfl rfl (by omega) ?_; intro w1 hown hb; have fz := hown.frozenAt a; obtain ⟨u, hu⟩ := own_has hown (j := a) (by omega); have y1 : (0 : Int) ≤ (a : Int) := (by omega); have y2 : (a : Int) < (k.procs.length : Int) := (by omega))
  have hbx1 := hbx.to hb
  have hgm1 := (own_lt hown).2
  have hlt0 := hbx.2.1
  have HFIN := Lib.hid (show ∀ m td xs ms wr, Spr w1 W.heap.size W.heap.size k.procs.length k.procs.length (callL k) a ((List.replicate k.procs.length false).set a true) m td xs [] ms wr → NewMarks w (markL k.procs.length (FromP k a)) (.returned (.slice (some ⟨W.heap.size, 0, none⟩) k.procs.length k.procs.length)) wr from fun m td xs ms wr h => by
    have e := h.srch.one ha
    subst e
    refine ⟨some ⟨W.heap.size, 0, none⟩, k.procs.length, by rw [markL_len], by rw [markL_len]; exact own_mono h.marks (by omega), ?_⟩
    exact hbx1.1.trans (below_grown h.grown (by omega) (by omega)))
  have hS : Spr w1 W.heap.size W.heap.size k.procs.length k.procs.length (callL k) a ((List.replicate k.procs.length false).set a true) (2 * k.procs.length + 1) (.slice (some ⟨w1.heap.size, 0, none⟩) 1 1) [a] [a] ((List.replicate k.procs.length false).set a true) ((w1.setCell ⟨W.heap.size, a, none⟩ (.bool true)).alloc (.cells #[.int .i64 a] 3)) := by
    have hun := unm_le ((List.replicate k.procs.length false).set a true)
    simp only [List.length_set, List.length_replicate] at hun
    refine ⟨?_, .start (by simpa using ha), (by have := own_stored hown a; exact this.1.alloc _), ((own_stored hown a).2.trans (World.grownBy_alloc _ _ _)), by omega, by simp; omega, by simp; omega⟩
    have := World.ownsRow_lit (base := w1.heap.size) (e := 3) (size := 1) (w1.setCell ⟨W.heap.size, a, none⟩ (.bool true)) #[.int .i64 a] 1 (by simp) (by unfold maxLen; omega) (by simp)
    simpa [nv, natI, iv] using this
  clear hown hb hbx fz hu y1 y2
  go_loopg [6, 7] (2 * k.procs.length + 1) (fun m td i wr => ∃ (h : Nat) (xs : List Nat) (ms : List Bool), i = .int .i64 h ∧ h ≤ xs.length ∧ Spr w1 W.heap.size W.heap.size k.procs.length k.procs.length (callL k) a ((List.replicate k.procs.length false).set a true) m td xs (xs.drop h) ms wr)
  case atStart => exact ⟨0, [a], _, rfl, by simp, hS⟩
  case round =>
    clear hS
    obtain ⟨h, xs, ms, rfl, hh, hS⟩ := hrel
    obtain ⟨A, ct, rfl⟩ := own_form hS.todo
    have hcn := hS.cnt
    have hbxr := hbx1.grown hS.grown hlt0
    obtain ⟨hbw, hsz, c0, c1, c2, c3, c4⟩ := id hbxr
    by_cases hlt : h < xs.length
    · have hdr : xs.drop h = xs[h] :: xs.drop (h + 1) := List.drop_eq_getElem_cons hlt
      rw [hdr] at hS
      have hxl : xs[h] < k.procs.length := by have := (hS.srch.td xs[h] (List.mem_cons_self ..)).1; rw [hS.len] at this; exact this
      clear hdr
      obtain ⟨ad, rfl, hbl, hcx⟩ := (own_rd hS.todo).nat hlt
      generalize xs[h] = x at *
      have z1 : (0 : Int) ≤ (h : Int) := by omega
      have z2 : (h : Int) < (xs.length : Int) := by omega
      go_wp2_with fail
      go_region_held3 (fun w' => Below wr.heap.size wr w' ∧ w'.cell? ⟨w.heap.size, 0, none⟩ = some (.slice v.gA k.globals.length v.gc) ∧ w'.cell? ⟨w.heap.size, 1, none⟩ = some (.slice v.lA k.locks.length v.lc) ∧
          w'.cell? ⟨w.heap.size, 2, none⟩ = some (.slice v.pA k.procs.length v.pc) ∧ w'.cell? ⟨w.heap.size, 3, none⟩ = some (.slice v.eA k.entry.length v.ec) ∧ w'.cell? ⟨w.heap.size, 4, none⟩ = some (.slice v.iA k.ins.length v.ic) ∧ w'.cell? (ad.add h) = some (.int .i64 x))
        (first | exact ⟨(Below.refl _ _).drew, c0, c1, c2, c3, c4, hcx⟩ | assumption | (go_split_ands; refine ⟨below_trans' (by assumption) hb1, ?_, ?_, ?_, ?_, ?_, ?_⟩ <;> exact cell_below hb1 (by assumption)))
        (first | (go_at_call 130; go_split_ands; refine (HNX.out x hxl _ (hkf.below (below_trans' hbw (by assumption)))).mono ?_; rintro e w2 ⟨An, cn, rfl, hon, hb1⟩))
      have hb2 : Below wr.heap.size wr w2 := below_trans' ((Below.refl _ _).drew) hb1
      have hP := hS.below hb2
      have hap : Apart (.slice An (callL k x).length cn) (.slice (some ad) xs.length ct) := fun b h1 h2 => by
        have h3 : wr.heap.size ≤ b := (hon.lt b h1).1
        have h4 := (hS.todo.lt b h2).2
        omega
      have hon : w2.ownsRow wr.heap.size 3 1 (.slice An (callL k x).length cn) (callL k x).length (nv (callL k x)) := hon
      have hszo := hS.grown.size
      clear hS hcx hbl hb1 hb2 c0 c1 c2 c3 c4 hbxr hbw hsz
      have HXN := Lib.hid (fun y (hy : y ∈ callL k x) => HR.out x y hxl hy)
      have HNL := Lib.hid (show (callL k x).length ≤ 1500 from by have := listN_len k.procs.length (OpsP k 4 x); unfold callL; omega)
      generalize hns : callL k x = ns at hon HXN HNL hap ⊢
      have HNS := Lib.hid hns
      clear hns
      have hnl2 := HNL.out
      go_wp2_with fail
      obtain ⟨wo, rfl⟩ : ∃ wo : World, wo = wr := ⟨_, rfl⟩
      obtain ⟨go, rfl⟩ : ∃ go : Nat, go = gk := ⟨_, rfl⟩
      go_loopg [6, 9] ns.length (fun l td i wr => ∃ (j : Nat) (xs : List Nat) (ms2 : List Bool), j ≤ ns.length ∧ l = ns.length - j ∧ i = .int .i64 j ∧ h + 1 ≤ xs.length ∧ Spr w1 W.heap.size W.heap.size k.procs.length k.procs.length (callL k) a ((List.replicate k.procs.length false).set a true) go td xs (x :: xs.drop (h + 1)) ms2 wr ∧ (∀ y ∈ ns.take j, mkd ms2 y = true) ∧ wr.ownsRow wo.heap.size 3 1 (.slice An ns.length cn) ns.length (nv ns) ∧ Apart (.slice An ns.length cn) td)
      case atStart => exact ⟨0, xs, ms, by omega, by omega, rfl, hlt, hP, by simp, hon, hap⟩
      case round =>
        clear hP hon hap
        obtain ⟨j, xs, ms2, hj, rfl, rfl, hh2, hP, hall, hon, hap⟩ := hrel
        have HALL := Lib.hid hall
        clear hall
        obtain ⟨A2, c2', rfl⟩ := own_form hP.todo
        by_cases hltj : j < ns.length
        · obtain ⟨adn, rfl, _, hcj⟩ := (own_rd hon).nat hltj
          have hyl := HXN.out ns[j] (List.getElem_mem hltj)
          have hml := hP.len
          have HML := Lib.hid hml
          have hcm := own_at hP.marks (j := ns[j]) hyl (u := .bool (mkd ms2 ns[j])) (by rw [List.getElem?_map, List.getElem?_eq_getElem (by omega), mkd_get (by omega)]; rfl)
          have HY := Lib.hid (show ns[j] ∈ callL k x from by rw [HNS.out]; exact List.getElem_mem hltj)
          have HT := Lib.hid (fun P => take_all (P := P) hltj)
          clear hml
          generalize ns[j] = y at *
          have z1 : (0 : Int) ≤ (y : Int) := by omega
          have z2 : (y : Int) < (k.procs.length : Int) := by omega
          cases hmk : mkd ms2 y
          · rw [hmk] at hcm
            have HMK := Lib.hid hmk
            clear hmk
            have hfz := hP.marks.frozenAt y
            obtain ⟨s0, s1, s2⟩ := hP.mark hyl HMK.out (x := x) (List.mem_cons_self ..) HY.out
            have hsz := hP.grown.size
            have hcn := hP.cnt
            have hcj2 := s2.cell hcj (by
              intro h1
              rw [block_of_add] at h1
              have h2 := (hon.lt adn.block rfl).1
              injection h1 with h1
              omega)
            have hbl2 : (adn.add j).block ≠ W.heap.size := by
              rw [block_of_add]
              have h2 := (hon.lt adn.block rfl).1
              omega
            go_wp2_with (at_builtin; refine append_int2 rfl _ _ rfl s0 rfl rfl (by simp) (by omega) (by simpa using hsz) ?_; intro A' c' w2 ho2 hg2 hl2)
            go_roundg (ns.length - (j + 1))
            case measure => omega
            case rel =>
              have hon1 := hon.kept s2 (.inr (by
                intro h1
                have := (hon.lt W.heap.size h1).1
                have := hP.grown.size
                omega))
              have hpu := hP.push hyl HMK.out (x := x) (List.mem_cons_self ..) HY.out ho2 hg2
              rw [List.cons_append, ← List.drop_append_of_le_length hh2] at hpu
              refine ⟨j + 1, xs ++ [y], ms2.set y true, by omega, rfl, by go_num, by simp; omega, hpu.mono (by omega), HT.out (fun z => mkd (ms2.set y true) z = true) (fun z hz => ?_) ?_, hon1.kept hg2 hap.kept, ?_⟩
              · rw [mkd_set (by have := HML.out; omega)]
                split
                · rfl
                · exact HALL.out z hz
              · rw [mkd_set (by have := HML.out; omega), if_pos rfl]
              · intro b h1 h2
                rcases hl2 with h3 | h3
                · rw [h3] at h2; exact hap b h1 h2
                · rw [h3] at h2
                  have := (hon.lt b h1).2
                  injection h2 with h2
                  simp at h2
                  omega
          · rw [hmk] at hcm
            have HMK := Lib.hid hmk
            clear hmk
            go_wp2_with fail
            go_roundg (ns.length - (j + 1))
            case measure => omega
            case rel => exact ⟨j + 1, xs, ms2, by omega, rfl, by go_num, hh2, hP, HT.out _ HALL.out HMK.out, hon, hap⟩
        · obtain rfl : j = ns.length := by omega
          have hcn := hP.cnt
          go_wp2_with fail
          go_roundg (go - 1)
          case measure => have := hP.pos; omega
          case rel =>
            have h1 := HALL.out
            rw [List.take_length, ← HNS.out] at h1
            exact ⟨h + 1, xs, ms2, by go_num, hh2, hP.done h1⟩
    · obtain rfl : h = xs.length := by omega
      go_wp2_with fail
      go_ret
      rw [List.drop_length] at hS
      exact HFIN.out _ _ _ _ _ hS
end Go.Proofs.YtkgoajnnkimkaaaGreat
