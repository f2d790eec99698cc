/- Contracts of Returns, of the program and of the reference. -/
import Derived.Test.YtjnlmiekldflhaaD9
set_option linter.unusedSimpArgs false
set_option linter.unusedVariables false
namespace Go.Proofs.Ytjnlmiekldflhaa
open Go.ChangeShapes Go.WideShapes Go.ChangeAt Go.RowKit
theorem endP_mono {k : Cd} {R S : Nat → Prop} (h : ∀ q, R q → S q) {p : Nat} (he : EndP k R p) : EndP k S p := Comes.mono (fun a n hn => nxR_mono h hn) he
/-- Whoever comes to the end is in it. -/
def RetShut (k : Cd) (S : Nat → Prop) : Prop := ∀ p, p < k.procs.length → EndP k S p → S p
/-- It returns. -/
def RetP (k : Cd) (p : Nat) : Prop := ∀ S, RetShut k S → S p
theorem ret_step {k : Cd} {s i : Nat} (h : ∀ q, s.testBit q = true → RetP k q) (hi : i < k.procs.length) (he : EndP k (fun q => s.testBit q = true) i) : ∀ q, (s ||| 2 ^ i).testBit q = true → RetP k q := by
  intro q hq S hS
  rw [Nat.testBit_or, Bool.or_eq_true, Nat.testBit_two_pow] at hq
  rcases hq with hq | hq
  · exact h q hq S hS
  · have e : i = q := of_decide_eq_true hq
    subst e
    exact hS i hi (endP_mono (fun q hq => h q hq S hS) he)
theorem ret_fix {k : Cd} {s : Nat} (hs : s < 2 ^ k.procs.length) (h : ∀ q, s.testBit q = true → RetP k q) (hc : ∀ i, i < k.procs.length → EndP k (fun q => s.testBit q = true) i → s.testBit i = true) : s = setN k.procs.length (RetP k) :=
  eq_setN hs fun q _ => ⟨h q, fun hq => hq _ hc⟩
/-- The set of those that return. -/
noncomputable def retN (k : Cd) : Nat := setN k.procs.length (RetP k)

set_option maxHeartbeats 1000000 in
theorem returns_i {B L : Nat} (v : CV) (k : Cd) (at_ : Int) (w : World) (hk : CodeAt w B v k) (hcb : CdB L k) (hL : L ≤ 1048576) :
    Calls Try.prog 32 #[.agg #[.slice v.gA k.globals.length v.gc, .slice v.lA k.locks.length v.lc, .slice v.pA k.procs.length v.pc, .slice v.eA k.entry.length v.ec, .slice v.iA k.ins.length v.ic], .int .i64 at_] w (fun e w' => e = .returned (.bool (procB k at_ (fun p => (retN k).testBit p))) ∧ Below w.heap.size w w') := by
  have hkf := hk.full
  have hbx := codeBox w v k
  have hpl0 := hcb.procs
  have hil0 := hcb.ins
  cases hok : codeOkI k
  · have HW := Lib.hid (fun W (h : CodeAt W w.heap.size v k) => worldOf_no v k W h hcb (by omega) hok)
    have HZ := Lib.hid (show ∀ w', Below w.heap.size w w' → Ending.returned (.bool false) = .returned (.bool (procB k at_ (fun p => (retN k).testBit p))) ∧ Below w.heap.size w w' from fun w' h => ⟨by rw [procB_no (and_no1 hok)], h⟩)
    clear hok hcb hk
    go_enter Try.func32, Try.ntmps32
    go_wp2_with fail
    generalize w.alloc (.cells #[.slice v.gA k.globals.length v.gc, .slice v.lA k.locks.length v.lc, .slice v.pA k.procs.length v.pc, .slice v.eA k.entry.length v.ec, .slice v.iA k.ins.length v.ic] 33) = W at hbx ⊢
    refine (HW.out _ (hkf.below hbx.1)).mono ?_
    rintro e w1 ⟨rfl, hb1⟩
    go_wp2_with fail
    go_ret
    exact HZ.out _ (below_trans' hbx.1 hb1)
  · have HR := Lib.hid (right_of hok)
    have HW := Lib.hid (fun W (h : CodeAt W w.heap.size v k) => worldOf_yes v k W h hcb (by omega) hok)
    cases hpl : (decide (0 ≤ at_) && decide (at_ < k.procs.length))
    · have HZ := Lib.hid (show ∀ w', Below w.heap.size w w' → Ending.returned (.bool false) = .returned (.bool (procB k at_ (fun p => (retN k).testBit p))) ∧ Below w.heap.size w w' from fun w' h => ⟨by rw [procB_no (and_no2 hpl)], h⟩)
      have HPL := Lib.hid hpl
      clear hok hpl hcb hk
      go_enter Try.func32, Try.ntmps32
      go_wp2_with fail
      generalize w.alloc (.cells #[.slice v.gA k.globals.length v.gc, .slice v.lA k.locks.length v.lc, .slice v.pA k.procs.length v.pc, .slice v.eA k.entry.length v.ec, .slice v.iA k.ins.length v.ic] 33) = W at hbx ⊢
      refine (HW.out _ (hkf.below hbx.1)).mono ?_
      rintro e w1 ⟨g, rfl, hgl, hW, hb1⟩
      have hbx1 := hbx.to hb1
      obtain ⟨hbw, hsz, c0, c1, c2, c3, c4⟩ := id hbx1
      go_wp2_with fail
      refine (isProc_any g v k _ _ hW.kat (by omega)).mono ?_
      rintro e w2 ⟨rfl, rfl⟩
      have hb2 := Below.refl w1.heap.size w1
      rw [HPL.out]
      go_wp2_with fail
      go_ret
      exact HZ.out _ (below_trans' hbw hb2)
    · obtain ⟨a, rfl, hal⟩ : ∃ a : Nat, at_ = a ∧ a < k.procs.length := by
        simp only [Bool.and_eq_true, decide_eq_true_eq] at hpl
        exact ⟨at_.toNat, by omega, by omega⟩
      have HY := Lib.hid (procB_yes (G := fun p => (retN k).testBit p) hok hal)
      have HPL := Lib.hid hpl
      clear hok hpl hcb hk
      go_enter Try.func32, Try.ntmps32
      go_wp2_with fail
      generalize w.alloc (.cells #[.slice v.gA k.globals.length v.gc, .slice v.lA k.locks.length v.lc, .slice v.pA k.procs.length v.pc, .slice v.eA k.entry.length v.ec, .slice v.iA k.ins.length v.ic] 33) = W at hbx ⊢
      refine (HW.out _ (hkf.below hbx.1)).mono ?_
      rintro e w1 ⟨g, rfl, hgl, hW, hb1⟩
      have hbx1 := hbx.to hb1
      obtain ⟨hbw, hsz, c0, c1, c2, c3, c4⟩ := id hbx1
      go_wp2_with fail
      refine (isProc_any g v k _ _ hW.kat (by omega)).mono ?_
      rintro e w2 ⟨rfl, rfl⟩
      have hb2 := Below.refl w1.heap.size w1
      rw [HPL.out]
      clear c0 c1 c2 c3 c4
      have hW2 := hW.below hb2
      have hb02 := below_trans' hbw hb2
      have hbx2 := hbx1.to hb2
      clear hbx1 hbw hsz hb2 hb1 hbx
      have hpl := HR.out.procs
      have h256 := pow_le_256 HR.out
      have HHB := Lib.hid (fun s i W (hs : s < 2 ^ k.procs.length) (hi : i < k.procs.length) => hasBit_any s i W (by omega) (by omega))
      have HER := Lib.hid (fun i s W (hb : Below w1.heap.size w1 W) (hi : i < k.procs.length) (hs : s < 2 ^ k.procs.length) => endReached_any g v k i s W HR.out (hW2.code.below hb) (hW2.kat.to hb) hi hs)
      have HST := Lib.hid (fun s i h hi he => ret_step (k := k) (s := s) (i := i) h hi he)
      have HFX := Lib.hid (fun s hs h hc => ret_fix (k := k) (s := s) hs h hc)
      go_wp2_with fail
      go_loopg [7, 8] (2 * (2 ^ k.procs.length - 0) + 1) (fun l sv ag wr => ∃ (s : Nat) (again : Bool), sv = .int .i64 s ∧ ag = .bool again ∧ s < 2 ^ k.procs.length ∧ (∀ q, s.testBit q = true → RetP k q) ∧ (again = false → ∀ i, i < k.procs.length → EndP k (fun q => s.testBit q = true) i → s.testBit i = true) ∧ l = 2 * (2 ^ k.procs.length - s) + (if again then 1 else 0) ∧ Below w1.heap.size w1 wr)
      case atStart => exact ⟨0, true, rfl, rfl, Nat.two_pow_pos _, by simp, by simp, rfl, Below.refl _ _⟩
      case round =>
        obtain ⟨s, again, rfl, rfl, hs, hall, hcl, rfl, hb⟩ := hrel
        have HALL := Lib.hid hall
        have HCL := Lib.hid hcl
        clear hall hcl
        cases again
        · have HH := Lib.hid (HHB.out s a wr hs hal)
          go_wp2_with fail
          refine HH.out.mono ?_
          rintro e w9 ⟨rfl, rfl⟩
          go_wp2_with fail
          go_ret
          refine ⟨ret_bool ?_, below_trans' hb02 hb⟩
          have e := HFX.out s hs HALL.out (HCL.out (by simp))
          rw [HY.out]
          show s.testBit a = (retN k).testBit a
          rw [show retN k = s from e.symm]
        · obtain ⟨_, _, c0, c1, c2, c3, c4⟩ := hbx2.to hb
          go_wp2_with fail
          clear c0 c1 c2 c3 c4
          obtain ⟨wo, rfl⟩ : ∃ wo : World, wo = wr := ⟨_, rfl⟩
          go_loopg [7, 8, 27] k.procs.length (fun l sv ag i wr => ∃ (j t : Nat) (new : Bool), j ≤ k.procs.length ∧ l = k.procs.length - j ∧ i = .int .i64 j ∧ sv = .int .i64 t ∧ ag = .bool new ∧ t < 2 ^ k.procs.length ∧ (∀ q, t.testBit q = true → RetP k q) ∧ (new = false → t = s ∧ ∀ i, i < j → EndP k (fun q => s.testBit q = true) i → s.testBit i = true) ∧ (new = true → s < t) ∧ Below w1.heap.size w1 wr)
          case atStart => exact ⟨0, s, false, by omega, by omega, rfl, rfl, rfl, hs, HALL.out, fun _ => ⟨rfl, fun i hi => by omega⟩, by simp, hb⟩
          case round =>
            clear hb
            obtain ⟨j, t, new, hj, rfl, rfl, rfl, rfl, ht, hall, hno, hyes, hb⟩ := hrel
            have HA := Lib.hid hall
            have HN := Lib.hid hno
            have HYE := Lib.hid hyes
            clear hall hno hyes
            by_cases hlt : j < k.procs.length
            · have HH := Lib.hid (HHB.out t j wr ht hlt)
              cases hbit : t.testBit j
              · rw [hbit] at HH
                have HE := Lib.hid (HER.out j t wr hb hlt ht)
                go_wp2_with fail
                refine HH.out.mono ?_
                rintro e w9 ⟨rfl, rfl⟩
                go_wp2_with fail
                refine HE.out.mono ?_
                rintro e w9 ⟨⟨r, rfl, hr9⟩, hb9⟩
                have HR9 := Lib.hid hr9
                clear hr9
                cases r
                · go_wp2_with fail
                  go_roundg (k.procs.length - (j + 1))
                  case measure => omega
                  case rel =>
                    refine ⟨j + 1, t, new, by omega, rfl, by go_num, rfl, rfl, ht, HA.out, fun h => ⟨(HN.out h).1, fun i hi he => ?_⟩, HYE.out, below_trans' hb hb9⟩
                    rcases Nat.lt_or_ge i j with h1 | h1
                    · exact (HN.out h).2 i h1 he
                    · have e : i = j := by omega
                      subst e
                      have := HR9.out.2 (by rw [(HN.out h).1]; exact he)
                      simp at this
                · have hj2 : 2 ^ j < 2 ^ k.procs.length := Nat.pow_lt_pow_right (by omega) hlt
                  have HSH := Lib.hid (show bits .or .i64 (t : Int) (wrap64 ((2 : Int) ^ j)) = ((t ||| 2 ^ j : Nat) : Int) from by rw [shl_one _ (by omega), i64_or_nat _ _ (by omega) (by omega)])
                  have hol : t ||| 2 ^ j < 2 ^ k.procs.length := Nat.or_lt_two_pow ht hj2
                  have hlt3 : t < t ||| 2 ^ j := by
                    rcases Nat.lt_or_ge t (t ||| 2 ^ j) with h | h
                    · exact h
                    · have h2 : t ≤ t ||| 2 ^ j := Nat.left_le_or
                      have h3 : t ||| 2 ^ j = t := by omega
                      have h4 := congrArg (fun n => n.testBit j) h3
                      simp [hbit] at h4
                  have hst : s ≤ t := by
                    cases new
                    · have := (HN.out rfl).1; omega
                    · have := HYE.out rfl; omega
                  clear hbit
                  go_wp2_with fail
                  go_roundg (k.procs.length - (j + 1))
                  case measure => omega
                  case rel => exact ⟨j + 1, t ||| 2 ^ j, true, by omega, rfl, by go_num, by rw [HSH.out], rfl, hol, HST.out t j HA.out hlt (HR9.out.1 (by simp)), fun h => by simp at h, fun _ => by omega, below_trans' hb hb9⟩
              · rw [hbit] at HH
                have HBIT := Lib.hid hbit
                clear hbit
                go_wp2_with fail
                refine HH.out.mono ?_
                rintro e w9 ⟨rfl, rfl⟩
                go_wp2_with fail
                go_roundg (k.procs.length - (j + 1))
                case measure => omega
                case rel =>
                  refine ⟨j + 1, t, new, by omega, rfl, by go_num, rfl, rfl, ht, HA.out, fun h => ⟨(HN.out h).1, fun i hi he => ?_⟩, HYE.out, hb⟩
                  rcases Nat.lt_or_ge i j with h1 | h1
                  · exact (HN.out h).2 i h1 he
                  · have e : i = j := by omega
                    subst e
                    rw [← (HN.out h).1]
                    exact HBIT.out
            · obtain rfl : j = k.procs.length := by omega
              go_wp2_with fail
              go_roundg (2 * (2 ^ k.procs.length - t) + (if new then 1 else 0))
              case measure =>
                cases new
                · have := (HN.out rfl).1; subst this; simp
                · have := HYE.out rfl; simp; omega
              case rel => exact ⟨t, new, rfl, rfl, ht, HA.out, fun h => by have h2 := HN.out h; rw [h2.1]; exact h2.2, rfl, hb⟩

theorem ret_set {n t j : Nat} (hj : j < n) : (markL n (fun q => t.testBit q = true)).set j true = markL n (fun q => (t ||| 2 ^ j).testBit q = true) := by
  refine eq_markL (by rw [List.length_set, markL_len]) fun b hb => ?_
  rw [mkd_set (by rw [markL_len]; exact hj), Nat.testBit_or, Nat.testBit_two_pow]
  by_cases e : j = b
  · simp [e]
  · rw [if_neg e, mkd_markL_true]
    simp [e, hb]
theorem ret_zero (n : Nat) : markL n (fun q => (0 : Nat).testBit q = true) = List.replicate n false := by
  refine (eq_markL (by simp) fun b _ => ?_).symm
  rw [mkd_replicate]
  simp

set_option maxHeartbeats 2000000 in
theorem l10Returns_any {B L : Nat} (v : CV) (k : Cd) (w : World) (hr : Right k) (hk : CodeAt w B v k) (hcb : CdB L k) (hL : L ≤ 1048576) :
    Calls Try.prog 79 #[.agg #[.slice v.gA k.globals.length v.gc, .slice v.lA k.locks.length v.lc, .slice v.pA k.procs.length v.pc, .slice v.eA k.entry.length v.ec, .slice v.iA k.ins.length v.ic]] w (NewMarks w (markL k.procs.length (fun q => (retN k).testBit q = true))) := by
  have hkf := hk.full
  have hbx := codeBox w v k
  have hpl := hr.procs
  have h256 := pow_le_256 hr
  have HCO := Lib.hid (fun i (R : Nat → Prop) A c W B' (hi : i < k.procs.length) (h : CodeAt W w.heap.size v k) (h2 : Rd W B' A ((markL k.procs.length R).map bv)) => l10Comes_any v k i R A c W hr h hcb hL hi h2)
  have HST := Lib.hid (fun s i h hi he => ret_step (k := k) (s := s) (i := i) h hi he)
  have HFX := Lib.hid (fun s hs h hc => ret_fix (k := k) (s := s) hs h hc)
  clear hk hr hcb
  go_enter Try.func79, Try.ntmps79
  go_wp2_with (at_make; generalize w.alloc (.cells #[.slice v.gA k.globals.length v.gc, .slice v.lA k.locks.length v.lc, .slice v.pA k.procs.length v.pc, .slice v.eA k.entry.length v.ec, .slice v.iA k.ins.length v.ic] 33) = W at hbx ⊢; refine make_bools _ rfl _ _ rfl k.procs.length rfl rfl (by omega) ?_; intro w1 hown hb1)
  rw [← ret_zero] at hown
  go_loopg [4] (2 * (2 ^ k.procs.length - 0) + 1) (fun l ag wr => ∃ (s : Nat) (again : Bool), ag = .bool again ∧ s < 2 ^ k.procs.length ∧ (∀ q, s.testBit q = true → RetP k q) ∧ (again = false → ∀ i, i < k.procs.length → EndP k (fun q => s.testBit q = true) i → s.testBit i = true) ∧ l = 2 * (2 ^ k.procs.length - s) + (if again then 1 else 0) ∧ Below W.heap.size W wr ∧ wr.ownsRow W.heap.size 4 1 (.slice (some ⟨W.heap.size, 0, none⟩) k.procs.length k.procs.length) k.procs.length ((markL k.procs.length (fun q => s.testBit q = true)).map bv))
  case atStart => exact ⟨0, true, rfl, Nat.two_pow_pos _, by simp, by simp, rfl, hb1, hown⟩
  case round =>
    clear hown hb1
    obtain ⟨s, again, rfl, hs, hall, hcl, rfl, hb, ho⟩ := hrel
    have HALL := Lib.hid hall
    have HCL := Lib.hid hcl
    clear hall hcl
    cases again
    · go_wp2_with fail
      go_ret
      have e := HFX.out s hs HALL.out (HCL.out (by simp))
      have e2 : retN k = s := e.symm
      rw [e2]
      exact newMarks_of (own_mono ho hbx.1.size) (below_trans' hbx.1 hb)
    · go_wp2_with fail
      obtain ⟨wo, rfl⟩ : ∃ wo : World, wo = wr := ⟨_, rfl⟩
      go_loopg [4, 5] k.procs.length (fun l ag i wr => ∃ (j t : Nat) (new : Bool), j ≤ k.procs.length ∧ l = k.procs.length - j ∧ i = .int .i64 j ∧ ag = .bool new ∧ t < 2 ^ k.procs.length ∧ (∀ q, t.testBit q = true → RetP k q) ∧ (new = false → t = s ∧ ∀ i, i < j → EndP k (fun q => s.testBit q = true) i → s.testBit i = true) ∧ (new = true → s < t) ∧ Below W.heap.size W wr ∧ wr.ownsRow W.heap.size 4 1 (.slice (some ⟨W.heap.size, 0, none⟩) k.procs.length k.procs.length) k.procs.length ((markL k.procs.length (fun q => t.testBit q = true)).map bv))
      case atStart => exact ⟨0, s, false, by omega, by omega, rfl, rfl, hs, HALL.out, fun _ => ⟨rfl, fun i hi => by omega⟩, by simp, hb, ho⟩
      case round =>
        clear hb ho
        obtain ⟨j, t, new, hj, rfl, rfl, rfl, ht, hall, hno, hyes, hb, ho⟩ := hrel
        have HA := Lib.hid hall
        have HN := Lib.hid hno
        have HYE := Lib.hid hyes
        clear hall hno hyes
        have hbxr := hbx.to hb
        obtain ⟨_, _, c0, c1, c2, c3, c4⟩ := id hbxr
        by_cases hlt : j < k.procs.length
        · have hcj := own_at ho (j := j) hlt (u := .bool (mkd (markL k.procs.length (fun q => t.testBit q = true)) j)) (by rw [List.getElem?_map, List.getElem?_eq_getElem (by rw [markL_len]; exact hlt), mkd_get (by rw [markL_len]; exact hlt)]; rfl)
          have y1 : (0 : Int) ≤ (j : Int) := by omega
          have y2 : (j : Int) < (k.procs.length : Int) := by omega
          cases hbit : t.testBit j
          · rw [mkd_markL_neg (by rw [hbit]; simp)] at hcj
            have HE := Lib.hid (HCO.out j (fun q => t.testBit q = true) (some ⟨W.heap.size, 0, none⟩) k.procs.length wr _ hlt (hkf.below hbxr.1) (own_rd ho))
            go_wp2_with fail
            refine HE.out.mono ?_
            rintro e w9 ⟨⟨r, rfl, hr9⟩, hb9⟩
            have HR9 := Lib.hid hr9
            clear hr9 hcj
            have ho9 := own_below ho hb9
            have hbb := below_trans' hb hb9
            cases r
            · go_wp2_with fail
              go_roundg (k.procs.length - (j + 1))
              case measure => omega
              case rel =>
                refine ⟨j + 1, t, new, by omega, rfl, by go_num, rfl, ht, HA.out, fun h => ⟨(HN.out h).1, fun i hi he => ?_⟩, HYE.out, hbb, ho9⟩
                rcases Nat.lt_or_ge i j with h1 | h1
                · exact (HN.out h).2 i h1 he
                · have e : i = j := by omega
                  subst e
                  have := HR9.out.2 (by rw [(HN.out h).1]; exact he)
                  simp at this
            · have hj2 : 2 ^ j < 2 ^ k.procs.length := Nat.pow_lt_pow_right (by omega) hlt
              have hol : t ||| 2 ^ j < 2 ^ k.procs.length := Nat.or_lt_two_pow ht hj2
              have hlt3 : t < t ||| 2 ^ j := by
                rcases Nat.lt_or_ge t (t ||| 2 ^ j) with h | h
                · exact h
                · have h2 : t ≤ t ||| 2 ^ j := Nat.left_le_or
                  have h3 : t ||| 2 ^ j = t := by omega
                  have h4 := congrArg (fun n => n.testBit j) h3
                  simp [hbit] at h4
              have hst : s ≤ t := by
                cases new
                · have := (HN.out rfl).1; omega
                · have := HYE.out rfl; omega
              have fz := ho9.frozenAt j
              obtain ⟨u, hu⟩ := own_has ho9 (j := j) (by omega)
              obtain ⟨s1, s2⟩ := ho9.stored j (bv true)
              rw [bv_set, ret_set hlt] at s1
              have HS1 := Lib.hid s1
              have HB3 := Lib.hid (show Below W.heap.size W (w9.setCell ⟨W.heap.size, j, none⟩ (bv true)) from hbb.setCell (Nat.le_refl _) _)
              clear hbit s1 s2
              go_wp2_with fail
              go_roundg (k.procs.length - (j + 1))
              case measure => omega
              case rel => exact ⟨j + 1, t ||| 2 ^ j, true, by omega, rfl, by go_num, rfl, hol, HST.out t j HA.out hlt (HR9.out.1 (by simp)), fun h => by simp at h, fun _ => by omega, HB3.out, HS1.out⟩
          · rw [mkd_markL_pos hlt hbit] at hcj
            have HBIT := Lib.hid hbit
            clear hbit
            go_wp2_with fail
            go_roundg (k.procs.length - (j + 1))
            case measure => omega
            case rel =>
              refine ⟨j + 1, t, new, by omega, rfl, by go_num, rfl, ht, HA.out, fun h => ⟨(HN.out h).1, fun i hi he => ?_⟩, HYE.out, hb, ho⟩
              rcases Nat.lt_or_ge i j with h1 | h1
              · exact (HN.out h).2 i h1 he
              · have e : i = j := by omega
                subst e
                rw [← (HN.out h).1]
                exact HBIT.out
        · obtain rfl : j = k.procs.length := by omega
          go_wp2_with fail
          go_roundg (2 * (2 ^ k.procs.length - t) + (if new then 1 else 0))
          case measure =>
            cases new
            · have := (HN.out rfl).1; subst this; simp
            · have := HYE.out rfl; simp; omega
          case rel => exact ⟨t, new, rfl, ht, HA.out, fun h => by have h2 := HN.out h; rw [h2.1]; exact h2.2, rfl, hb, ho⟩

set_option maxHeartbeats 1000000 in
theorem returns_s {B L : Nat} (v : CV) (k : Cd) (at_ : Int) (w : World) (hk : CodeAt w B v k) (hcb : CdB L k) (hL : L ≤ 1048576) :
    Calls Try.prog 31 #[.agg #[.slice v.gA k.globals.length v.gc, .slice v.lA k.locks.length v.lc, .slice v.pA k.procs.length v.pc, .slice v.eA k.entry.length v.ec, .slice v.iA k.ins.length v.ic], .int .i64 at_] w (fun e w' => e = .returned (.bool (procB k at_ (fun p => (retN k).testBit p))) ∧ Below w.heap.size w w') := by
  have hkf := hk.full
  have hbx := codeBox w v k
  have hpl0 := hcb.procs
  have hil0 := hcb.ins
  have HG := Lib.hid (fun W (h : CodeAt W w.heap.size v k) => l10Ok_any v k at_ W h hcb (by omega))
  cases hok : (codeOkI k && (decide (0 ≤ at_) && decide (at_ < k.procs.length)))
  · have HZ := Lib.hid (show ∀ w', Below w.heap.size w w' → Ending.returned (.bool false) = .returned (.bool (procB k at_ (fun p => (retN k).testBit p))) ∧ Below w.heap.size w w' from fun w' h => ⟨by rw [procB_no hok], h⟩)
    rw [hok] at HG
    clear hok hcb hk
    go_enter Try.func31, Try.ntmps31
    go_wp2_with fail
    generalize w.alloc (.cells #[.slice v.gA k.globals.length v.gc, .slice v.lA k.locks.length v.lc, .slice v.pA k.procs.length v.pc, .slice v.eA k.entry.length v.ec, .slice v.iA k.ins.length v.ic] 33) = W at hbx ⊢
    refine (HG.out _ (hkf.below hbx.1)).mono ?_
    rintro e w1 ⟨rfl, hb1⟩
    go_wp2_with fail
    go_ret
    exact HZ.out _ (below_trans' hbx.1 hb1)
  · rw [hok] at HG
    obtain ⟨hok1, a, rfl, hal⟩ : codeOkI k = true ∧ ∃ a : Nat, at_ = a ∧ a < k.procs.length := by
      simp only [Bool.and_eq_true, decide_eq_true_eq] at hok
      exact ⟨hok.1, at_.toNat, by omega, by omega⟩
    have HR := Lib.hid (right_of hok1)
    have HY := Lib.hid (procB_yes (G := fun p => (retN k).testBit p) hok1 hal)
    have HCB := Lib.hid hcb
    clear hok hok1 hcb hk
    go_enter Try.func31, Try.ntmps31
    go_wp2_with fail
    generalize w.alloc (.cells #[.slice v.gA k.globals.length v.gc, .slice v.lA k.locks.length v.lc, .slice v.pA k.procs.length v.pc, .slice v.eA k.entry.length v.ec, .slice v.iA k.ins.length v.ic] 33) = W at hbx ⊢
    refine (HG.out _ (hkf.below hbx.1)).mono ?_
    rintro e w2 ⟨rfl, hb2⟩
    have hbx2 := hbx.to hb2
    clear hbx hb2
    have hk2 := hkf.below hbx2.1
    have hb02 := hbx2.1
    obtain ⟨_, _, c0, c1, c2, c3, c4⟩ := id hbx2
    have HC := Lib.hid (l10Returns_any v k w2 HR.out hk2 HCB.out hL)
    go_wp2_with fail
    refine HC.out.mono ?_
    rintro e w3 ⟨Am, cm, rfl, hom, hb3⟩
    have hpl := HR.out.procs
    have z1 : (0 : Int) ≤ (a : Int) := by omega
    have z2 : (a : Int) < (k.procs.length : Int) := by omega
    obtain ⟨ad, rfl, _, hc⟩ := (own_rd hom).mark (j := a) (by rw [markL_len]; exact hal)
    rw [markL_len] at hom ⊢
    have HM := Lib.hid (show mkd (markL k.procs.length (fun q => (retN k).testBit q = true)) a = (retN k).testBit a from by
      rw [Bool.eq_iff_iff, mkd_markL_true]
      exact ⟨fun h => h.2, fun h => ⟨hal, h⟩⟩)
    go_wp2_with fail
    go_ret
    exact ⟨ret_bool (by rw [HY.out, HM.out]), below_trans' hb02 hb3⟩
end Go.Proofs.Ytjnlmiekldflhaa
