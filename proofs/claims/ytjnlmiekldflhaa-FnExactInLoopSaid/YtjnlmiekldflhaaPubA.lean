/- Contracts of InLoop, NextOf, ReachIn, LiveIn, of the program and of the reference. -/
import Derived.Test.YtjnlmiekldflhaaWorld
set_option linter.unusedSimpArgs false
set_option linter.unusedVariables false
namespace Go.Proofs.Ytjnlmiekldflhaa
open Go.ChangeShapes Go.WideShapes Go.ChangeAt Go.RowKit

/-- What is answered of a place of right code; else nothing. -/
noncomputable def atL (k : Cd) (at_ : Int) (F : Nat → List Nat) : List Nat := if (codeOkI k && (decide (0 ≤ at_) && decide (at_ < k.ins.length))) = true then F at_.toNat else []
noncomputable def procL (k : Cd) (at_ : Int) (F : Nat → List Nat) : List Nat := if (codeOkI k && (decide (0 ≤ at_) && decide (at_ < k.procs.length))) = true then F at_.toNat else []
noncomputable def atB (k : Cd) (at_ : Int) (F : Nat → Bool) : Bool := if (codeOkI k && (decide (0 ≤ at_) && decide (at_ < k.ins.length))) = true then F at_.toNat else false
noncomputable def procB (k : Cd) (at_ : Int) (F : Nat → Bool) : Bool := if (codeOkI k && (decide (0 ≤ at_) && decide (at_ < k.procs.length))) = true then F at_.toNat else false
noncomputable def atI (k : Cd) (at_ : Int) (F : Nat → Nat) : Nat := if (codeOkI k && (decide (0 ≤ at_) && decide (at_ < k.ins.length))) = true then F at_.toNat else 0
noncomputable def procV (k : Cd) (at_ : Int) (F : Nat → Nat) : Nat := if (codeOkI k && (decide (0 ≤ at_) && decide (at_ < k.procs.length))) = true then F at_.toNat else 0
section
variable {k : Cd} {at_ : Int} {F : Nat → List Nat} {G : Nat → Bool} {H : Nat → Nat}
theorem atL_no (h : (codeOkI k && (decide (0 ≤ at_) && decide (at_ < k.ins.length))) = false) : atL k at_ F = [] := by rw [atL, if_neg (by rw [h]; simp)]
theorem procL_no (h : (codeOkI k && (decide (0 ≤ at_) && decide (at_ < k.procs.length))) = false) : procL k at_ F = [] := by rw [procL, if_neg (by rw [h]; simp)]
theorem atB_no (h : (codeOkI k && (decide (0 ≤ at_) && decide (at_ < k.ins.length))) = false) : atB k at_ G = false := by rw [atB, if_neg (by rw [h]; simp)]
theorem procB_no (h : (codeOkI k && (decide (0 ≤ at_) && decide (at_ < k.procs.length))) = false) : procB k at_ G = false := by rw [procB, if_neg (by rw [h]; simp)]
theorem atI_no (h : (codeOkI k && (decide (0 ≤ at_) && decide (at_ < k.ins.length))) = false) : atI k at_ H = 0 := by rw [atI, if_neg (by rw [h]; simp)]
theorem procV_no (h : (codeOkI k && (decide (0 ≤ at_) && decide (at_ < k.procs.length))) = false) : procV k at_ H = 0 := by rw [procV, if_neg (by rw [h]; simp)]
theorem and_no1 {a b : Bool} (h : a = false) : (a && b) = false := by rw [h]; rfl
theorem and_no2 {a b : Bool} (h : b = false) : (a && b) = false := by rw [h]; simp
end
section
variable {k : Cd} {a : Nat} {F : Nat → List Nat} {G : Nat → Bool} {H : Nat → Nat}
theorem place_yes (hok : codeOkI k = true) {n : Nat} (ha : a < n) : (codeOkI k && (decide ((0 : Int) ≤ (a : Int)) && decide ((a : Int) < (n : Int)))) = true := by
  rw [hok]; simp; exact ha
theorem atL_yes (hok : codeOkI k = true) (ha : a < k.ins.length) : atL k a F = F a := by rw [atL, if_pos (place_yes hok ha)]; simp
theorem procL_yes (hok : codeOkI k = true) (ha : a < k.procs.length) : procL k a F = F a := by rw [procL, if_pos (place_yes hok ha)]; simp
theorem atB_yes (hok : codeOkI k = true) (ha : a < k.ins.length) : atB k a G = G a := by rw [atB, if_pos (place_yes hok ha)]; simp
theorem procB_yes (hok : codeOkI k = true) (ha : a < k.procs.length) : procB k a G = G a := by rw [procB, if_pos (place_yes hok ha)]; simp
theorem atI_yes (hok : codeOkI k = true) (ha : a < k.ins.length) : atI k a H = H a := by rw [atI, if_pos (place_yes hok ha)]; simp
theorem procV_yes (hok : codeOkI k = true) (ha : a < k.procs.length) : procV k a H = H a := by rw [procV, if_pos (place_yes hok ha)]; simp
end
theorem newNil {w w' : World} {xs : List Nat} (h : xs = []) (hb : Below w.heap.size w w') : NewNats w xs (.returned (.slice none 0 0)) w' := by
  subst h
  exact ⟨none, 0, rfl, World.ownsRow_nil _ _ _ _, hb⟩
theorem newNil0 {w W : World} {xs : List Nat} (h : xs = []) (hb : Below w.heap.size w W) : NewNats w xs (.returned (.slice (some ⟨W.heap.size, 0, none⟩) 0 0)) (W.alloc (.cells #[] 3)) := by
  subst h
  exact newNats_lit w W [] (by simp) hb _ rfl _ rfl _ rfl
theorem NewNats.more {w w1 w' : World} {xs ys : List Nat} {e : Ending} (h : NewNats w1 xs e w') (hb : Below w.heap.size w w1) (he : ys = xs) : NewNats w ys e w' := by
  subst he
  obtain ⟨A, c, h1, h2, h3⟩ := h
  exact ⟨A, c, h1, own_mono h2 hb.size, below_trans' hb h3⟩
theorem l10Ok_any {B L : Nat} (v : CV) (k : Cd) (at_ : Int) (w : World) (hk : CodeAt w B v k) (hcb : CdB L k) (hL : L ≤ 1099511627776) :
    Calls Try.prog 78 #[.agg #[.slice v.gA k.globals.length v.gc, .slice v.lA k.locks.length v.lc, .slice v.pA k.procs.length v.pc, .slice v.eA k.entry.length v.ec, .slice v.iA k.ins.length v.ic], .int .i64 at_] w fun e w' => e = .returned (.bool (codeOkI k && (decide (0 ≤ at_) && decide (at_ < k.procs.length)))) ∧ Below w.heap.size w w' := by
  have hl := hcb.procs
  have hcs := codeOk_s v k (w.alloc (.cells #[.slice v.gA k.globals.length v.gc, .slice v.lA k.locks.length v.lc, .slice v.pA k.procs.length v.pc, .slice v.eA k.entry.length v.ec, .slice v.iA k.ins.length v.ic] 33)) (hk.full.below (below_alloc0 _ _)) hcb hL
  rw [← codeOk_eq] at hcs
  have HC := Lib.hid hcs
  have hbx := codeBox w v k
  clear hcs hcb
  generalize codeOkI k = ok at *
  go_enter Try.func78, Try.ntmps78
  go_wp2_with fail
  generalize w.alloc (.cells #[.slice v.gA k.globals.length v.gc, .slice v.lA k.locks.length v.lc, .slice v.pA k.procs.length v.pc, .slice v.eA k.entry.length v.ec, .slice v.iA k.ins.length v.ic] 33) = W at hbx HC ⊢
  refine HC.out.mono ?_
  rintro r w1 ⟨rfl, hb1⟩
  obtain ⟨hbw, hsz, c0, c1, c2, c3, c4⟩ := hbx.to hb1
  cases ok
  · go_wp2_with fail
    go_ret
    exact ⟨rfl, hbw⟩
  · go_wp2_with fail
    refine (l01In_any _ _ _ _).mono ?_
    rintro r w2 ⟨rfl, rfl⟩
    go_wp2_with fail
    go_ret
    refine ⟨ret_bool ?_, hbw⟩
    rw [Bool.eq_iff_iff]
    simp
    omega
theorem codeOk_sI {B L : Nat} (v : CV) (k : Cd) (w : World) (hk : CodeAt w B v k) (hcb : CdB L k) (hL : L ≤ 1099511627776) :
    Calls Try.prog 71 #[.agg #[.slice v.gA k.globals.length v.gc, .slice v.lA k.locks.length v.lc, .slice v.pA k.procs.length v.pc, .slice v.eA k.entry.length v.ec, .slice v.iA k.ins.length v.ic]] w fun e w' => e = .returned (.bool (codeOkI k)) ∧ Below w.heap.size w w' := by
  rw [codeOk_eq]
  exact codeOk_s v k w hk hcb hL

set_option maxHeartbeats 1000000 in
theorem inLoop_i {B L : Nat} (v : CV) (k : Cd) (at_ : Int) (w : World) (hk : CodeAt w B v k) (hcb : CdB L k) (hL : L ≤ 1048576) :
    Calls Try.prog 30 #[.agg #[.slice v.gA k.globals.length v.gc, .slice v.lA k.locks.length v.lc, .slice v.pA k.procs.length v.pc, .slice v.eA k.entry.length v.ec, .slice v.iA k.ins.length v.ic], .int .i64 at_] w (fun e w' => e = .returned (.bool (atB k at_ (fun a => mkd (markL k.ins.length (Reach (nextL k) a)) a))) ∧ Below w.heap.size w w') := by
  have hkf := hk.full
  have hbx := codeBox w v k
  have hpl0 := hcb.procs
  have hil0 := hcb.ins
  cases hok : codeOkI k
  · have HW := Lib.hid (fun W (h : CodeAt W w.heap.size v k) => worldOf_no v k W h hcb (by omega) hok)
    have HZ := Lib.hid (show ∀ w', Below w.heap.size w w' → Ending.returned (.bool false) = .returned (.bool (atB k at_ (fun a => mkd (markL k.ins.length (Reach (nextL k) a)) a))) ∧ Below w.heap.size w w' from fun w' h => ⟨by rw [atB_no (and_no1 hok)], h⟩)
    clear hok hcb hk
    go_enter Try.func30, Try.ntmps30
    go_wp2_with fail
    generalize w.alloc (.cells #[.slice v.gA k.globals.length v.gc, .slice v.lA k.locks.length v.lc, .slice v.pA k.procs.length v.pc, .slice v.eA k.entry.length v.ec, .slice v.iA k.ins.length v.ic] 33) = W at hbx ⊢
    refine (HW.out _ (hkf.below hbx.1)).mono ?_
    rintro e w1 ⟨rfl, hb1⟩
    go_wp2_with fail
    go_ret
    exact HZ.out _ (below_trans' hbx.1 hb1)
  · have HR := Lib.hid (right_of hok)
    have HW := Lib.hid (fun W (h : CodeAt W w.heap.size v k) => worldOf_yes v k W h hcb (by omega) hok)
    cases hpl : (decide (0 ≤ at_) && decide (at_ < k.ins.length))
    · have HZ := Lib.hid (show ∀ w', Below w.heap.size w w' → Ending.returned (.bool false) = .returned (.bool (atB k at_ (fun a => mkd (markL k.ins.length (Reach (nextL k) a)) a))) ∧ Below w.heap.size w w' from fun w' h => ⟨by rw [atB_no (and_no2 hpl)], h⟩)
      have HPL := Lib.hid hpl
      clear hok hpl hcb hk
      go_enter Try.func30, Try.ntmps30
      go_wp2_with fail
      generalize w.alloc (.cells #[.slice v.gA k.globals.length v.gc, .slice v.lA k.locks.length v.lc, .slice v.pA k.procs.length v.pc, .slice v.eA k.entry.length v.ec, .slice v.iA k.ins.length v.ic] 33) = W at hbx ⊢
      refine (HW.out _ (hkf.below hbx.1)).mono ?_
      rintro e w1 ⟨g, rfl, hgl, hW, hb1⟩
      have hbx1 := hbx.to hb1
      obtain ⟨hbw, hsz, c0, c1, c2, c3, c4⟩ := id hbx1
      go_wp2_with fail
      refine (isPlace_any v k _ _).mono ?_
      rintro e w2 ⟨rfl, hb2⟩
      rw [HPL.out]
      go_wp2_with fail
      go_ret
      exact HZ.out _ (below_trans' hbw hb2)
    · obtain ⟨a, rfl, hal⟩ : ∃ a : Nat, at_ = a ∧ a < k.ins.length := by
        simp only [Bool.and_eq_true, decide_eq_true_eq] at hpl
        exact ⟨at_.toNat, by omega, by omega⟩
      have HY := Lib.hid (atB_yes (G := fun a => mkd (markL k.ins.length (Reach (nextL k) a)) a) hok hal)
      have HPL := Lib.hid hpl
      clear hok hpl hcb hk
      go_enter Try.func30, Try.ntmps30
      go_wp2_with fail
      generalize w.alloc (.cells #[.slice v.gA k.globals.length v.gc, .slice v.lA k.locks.length v.lc, .slice v.pA k.procs.length v.pc, .slice v.eA k.entry.length v.ec, .slice v.iA k.ins.length v.ic] 33) = W at hbx ⊢
      refine (HW.out _ (hkf.below hbx.1)).mono ?_
      rintro e w1 ⟨g, rfl, hgl, hW, hb1⟩
      have hbx1 := hbx.to hb1
      obtain ⟨hbw, hsz, c0, c1, c2, c3, c4⟩ := id hbx1
      go_wp2_with fail
      refine (isPlace_any v k _ _).mono ?_
      rintro e w2 ⟨rfl, hb2⟩
      rw [HPL.out]
      clear c0 c1 c2 c3 c4
      have hW2 := hW.below hb2
      have hb02 := below_trans' hbw hb2
      have hbx2 := hbx1.to hb2
      clear hbx1 hbw hsz hb2 hb1 hbx
      have HRE := Lib.hid (reach_any g v k a w2 HR.out hW2.code hW2.kat hal)
      go_wp2_with fail
      refine HRE.out.mono ?_
      rintro e w3 ⟨Am, cm, rfl, hom, hb3⟩
      have hins := HR.out.ins
      have z1 : (0 : Int) ≤ (a : Int) := by omega
      have z2 : (a : Int) < (k.ins.length : Int) := by omega
      obtain ⟨ad, rfl, _, hc⟩ := (own_rd hom).mark (j := a) (by rw [markL_len]; exact hal)
      rw [markL_len] at hom ⊢
      go_wp2_with fail
      go_ret
      exact ⟨ret_bool (by rw [HY.out]), below_trans' hb02 hb3⟩

set_option maxHeartbeats 1000000 in
theorem inLoop_s {B L : Nat} (v : CV) (k : Cd) (at_ : Int) (w : World) (hk : CodeAt w B v k) (hcb : CdB L k) (hL : L ≤ 1048576) :
    Calls Try.prog 29 #[.agg #[.slice v.gA k.globals.length v.gc, .slice v.lA k.locks.length v.lc, .slice v.pA k.procs.length v.pc, .slice v.eA k.entry.length v.ec, .slice v.iA k.ins.length v.ic], .int .i64 at_] w (fun e w' => e = .returned (.bool (atB k at_ (fun a => mkd (markL k.ins.length (Reach (nextL k) a)) a))) ∧ Below w.heap.size w w') := by
  have hkf := hk.full
  have hbx := codeBox w v k
  have hpl0 := hcb.procs
  have hil0 := hcb.ins
  have HG := Lib.hid (fun W (h : CodeAt W w.heap.size v k) => l09At_any v k at_ W h hcb (by omega))
  cases hok : (codeOkI k && (decide (0 ≤ at_) && decide (at_ < k.ins.length)))
  · have HZ := Lib.hid (show ∀ w', Below w.heap.size w w' → Ending.returned (.bool false) = .returned (.bool (atB k at_ (fun a => mkd (markL k.ins.length (Reach (nextL k) a)) a))) ∧ Below w.heap.size w w' from fun w' h => ⟨by rw [atB_no hok], h⟩)
    rw [hok] at HG
    clear hok hcb hk
    go_enter Try.func29, Try.ntmps29
    go_wp2_with fail
    generalize w.alloc (.cells #[.slice v.gA k.globals.length v.gc, .slice v.lA k.locks.length v.lc, .slice v.pA k.procs.length v.pc, .slice v.eA k.entry.length v.ec, .slice v.iA k.ins.length v.ic] 33) = W at hbx ⊢
    refine (HG.out _ (hkf.below hbx.1)).mono ?_
    rintro e w1 ⟨rfl, hb1⟩
    go_wp2_with fail
    go_ret
    exact HZ.out _ (below_trans' hbx.1 hb1)
  · rw [hok] at HG
    obtain ⟨hok1, a, rfl, hal⟩ : codeOkI k = true ∧ ∃ a : Nat, at_ = a ∧ a < k.ins.length := by
      simp only [Bool.and_eq_true, decide_eq_true_eq] at hok
      exact ⟨hok.1, at_.toNat, by omega, by omega⟩
    have HR := Lib.hid (right_of hok1)
    have HY := Lib.hid (atB_yes (G := fun a => mkd (markL k.ins.length (Reach (nextL k) a)) a) hok1 hal)
    clear hok hok1 hcb hk
    go_enter Try.func29, Try.ntmps29
    go_wp2_with fail
    generalize w.alloc (.cells #[.slice v.gA k.globals.length v.gc, .slice v.lA k.locks.length v.lc, .slice v.pA k.procs.length v.pc, .slice v.eA k.entry.length v.ec, .slice v.iA k.ins.length v.ic] 33) = W at hbx ⊢
    refine (HG.out _ (hkf.below hbx.1)).mono ?_
    rintro e w2 ⟨rfl, hb2⟩
    have hbx2 := hbx.to hb2
    clear hbx hb2
    have hk2 := hkf.below hbx2.1
    have hb02 := hbx2.1
    obtain ⟨_, _, c0, c1, c2, c3, c4⟩ := id hbx2
    have HRE := Lib.hid (l09Reach_any v k a w2 HR.out hk2 hal)
    go_wp2_with fail
    refine HRE.out.mono ?_
    rintro e w3 ⟨Am, cm, rfl, hom, hb3⟩
    have hins := HR.out.ins
    have z1 : (0 : Int) ≤ (a : Int) := by omega
    have z2 : (a : Int) < (k.ins.length : Int) := by omega
    obtain ⟨ad, rfl, _, hc⟩ := (own_rd hom).mark (j := a) (by rw [markL_len]; exact hal)
    rw [markL_len] at hom ⊢
    go_wp2_with fail
    go_ret
    exact ⟨ret_bool (by rw [HY.out]), below_trans' hb02 hb3⟩
end Go.Proofs.Ytjnlmiekldflhaa
