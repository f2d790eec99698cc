/- Contracts of l14RootsAt, RootsAt of the reference, apart, Beside of the program. -/
import Derived.Test.YtfecdgjnncpcjaaGreatD16
set_option linter.unusedSimpArgs false
set_option linter.unusedVariables false
namespace Go.Proofs.YtfecdgjnncpcjaaGreat
open Go.ChangeShapes Go.WideShapes Go.ChangeAt Go.RowKit

set_option maxHeartbeats 2000000 in
theorem l14RootsAt_any {B : Nat} (v : CV) (k : Cd) (a : Nat) (w : World) (hr : Right k) (hk : CodeAt w B v k) (ha : a < k.ins.length) :
    Calls Tryz.prog 70 #[.agg #[.slice v.gA k.globals.length v.gc, .slice v.lA k.locks.length v.lc, .slice v.pA k.procs.length v.pc, .slice v.eA k.entry.length v.ec, .slice v.iA k.ins.length v.ic], .int .i64 a] w (NewNats w (listN k.procs.length (AtP k a))) := by
  have hkf := hk.full
  obtain ⟨hbx, hpo⟩ := preOut w v k
  have hpl := hr.procs
  have hins := hr.ins
  have hpn := (hr.proc a ha).1
  have HPR := Lib.hid (fun W (h : CodeAt W w.heap.size v k) => l08Proc_right v k a W hr h ha)
  have HLV := Lib.hid (fun W (h : CodeAt W w.heap.size v k) => l09Live_any v k (procN k a) W hr h hpn)
  have HRT := Lib.hid (fun W (h : CodeAt W w.heap.size v k) => l14Roots_any v k W hr h)
  have HFR := Lib.hid (fun r (hrl : r < k.procs.length) W (h : CodeAt W w.heap.size v k) => l10From_any v k r W hr h hrl)
  have HATP := Lib.hid (show ∀ r, AtP k a r ↔ LiveP k (procN k a) a ∧ RootP k r ∧ FromP k r (procN k a) from fun r => Iff.rfl)
  clear hk hr
  generalize procN k a = p at *
  have y1 : (0 : Int) ≤ (a : Int) := by omega
  have y2 : (a : Int) < (k.ins.length : Int) := by omega
  have y3 : (0 : Int) ≤ (p : Int) := by omega
  have y4 : (p : Int) < (k.procs.length : Int) := by omega
  go_enter Tryz.func70, Tryz.ntmps70
  go_wp2_with fail
  generalize (w.alloc (.cells #[.slice v.gA k.globals.length v.gc, .slice v.lA k.locks.length v.lc, .slice v.pA k.procs.length v.pc, .slice v.eA k.entry.length v.ec, .slice v.iA k.ins.length v.ic] 33)).alloc (.cells #[] 3) = W at hbx hpo ⊢
  refine (HPR.out _ (hkf.below hbx.1)).mono ?_
  rintro e w1 ⟨rfl, hb1⟩
  have hbx1 := hbx.to hb1
  have hpo1 := own_below hpo hb1
  have hWs := hbx.2.1
  have hW1 := hb1.size
  clear hbx hpo hb1
  obtain ⟨q1, q2, c0, c1, c2, c3, c4⟩ := id hbx1
  go_wp2_with fail
  refine (HLV.out _ (hkf.below q1)).mono ?_
  rintro e w2 ⟨Al, cl, rfl, hol, hb2⟩
  have hbx2 := hbx1.to hb2
  have hpo2 := own_below hpo1 hb2
  have hW2 := hb2.size
  clear c0 c1 c2 c3 c4 q1 q2 hbx1 hpo1 hb2
  obtain ⟨adl, rfl, _, hcl⟩ := (own_rd hol).mark (j := a) (by rw [markL_len]; exact ha)
  rw [markL_len]
  clear hol
  by_cases hlv : LiveP k p a
  · rw [mkd_markL_pos ha hlv] at hcl
    have HLI := Lib.hid hlv
    clear hlv
    obtain ⟨q1, q2, c0, c1, c2, c3, c4⟩ := id hbx2
    go_wp2_with fail
    refine (HRT.out _ (hkf.below q1)).mono ?_
    rintro e w3 ⟨Ar, cr, rfl, hor, hb3⟩
    rw [markL_len] at hor ⊢
    have hbx3 := hbx2.to hb3
    have hpo3 := own_below hpo2 hb3
    have har : Apart (.slice Ar k.procs.length cr) (.slice (some ⟨w.heap.size + 1, 0, none⟩) 0 0) := fun b h1 h2 => by
      have h3 := (hor.lt b h1).1
      have h4 := (hpo2.lt b h2).2
      omega
    obtain ⟨lr, hlr, hor⟩ : ∃ lr, w.heap.size < lr ∧ w3.ownsRow lr 4 1 (.slice Ar k.procs.length cr) k.procs.length ((markL k.procs.length (RootP k)).map bv) := ⟨w2.heap.size, by omega, hor⟩
    clear hbx2 hpo2 hb3 c0 c1 c2 c3 c4 q1 q2 hcl
    go_wp2_with fail
    go_loopg [5, 8] k.procs.length (fun l out i wr => ∃ r : Nat, r ≤ k.procs.length ∧ l = k.procs.length - r ∧ i = .int .i64 r ∧ wr.ownsRow (w.heap.size + 1) 3 1 out (listN r (AtP k a)).length (nv (listN r (AtP k a))) ∧ CodeBox w v k wr ∧ wr.ownsRow lr 4 1 (.slice Ar k.procs.length cr) k.procs.length ((markL k.procs.length (RootP k)).map bv) ∧ Apart (.slice Ar k.procs.length cr) out)
    case atStart => exact ⟨0, by omega, by omega, rfl, hpo3, hbx3, hor, har⟩
    case round =>
      clear hpo3 hbx3 hor har
      obtain ⟨r, hrl, rfl, rfl, ho, hbx, hor, har⟩ := hrel
      obtain ⟨Ao, co, rfl⟩ := own_form ho
      obtain ⟨q1, q2, c0, c1, c2, c3, c4⟩ := id hbx
      have hll := listN_len r (AtP k a)
      by_cases hlt : r < k.procs.length
      · obtain ⟨adr, rfl, _, hcr⟩ := (own_rd hor).mark (j := r) (by rw [markL_len]; exact hlt)
        have z1 : (0 : Int) ≤ (r : Int) := by omega
        have z2 : (r : Int) < (k.procs.length : Int) := by omega
        have HT := Lib.hid (listN_succ r (AtP k a))
        have HA := Lib.hid (HATP.out r)
        by_cases hrt : RootP k r
        · rw [mkd_markL_pos hlt hrt] at hcr
          have HRR := Lib.hid hrt
          clear hrt
          go_wp2_with fail
          refine (HFR.out r hlt _ (hkf.below q1)).mono ?_
          rintro e w5 ⟨Af, cf, rfl, hof, hb5⟩
          have ho5 := own_below ho hb5
          have hbx5 := hbx.to hb5
          have hor5 := own_below hor hb5
          have hsz : w.heap.size + 1 ≤ w5.heap.size := hbx5.2.1
          clear c0 c1 c2 c3 c4 q1 q2 ho hbx hor hb5 hcr
          obtain ⟨adf, rfl, _, hcf⟩ := (own_rd hof).mark (j := p) (by rw [markL_len]; exact hpn)
          rw [markL_len]
          clear hof
          by_cases hfr : FromP k r p
          · rw [mkd_markL_pos hpn hfr] at hcf
            have HIN := Lib.hid (HA.out.2 ⟨HLI.out, HRR.out, hfr⟩)
            clear hfr
            go_wp2_with (at_builtin; refine append_int rfl _ _ rfl ho5 rfl rfl (by omega) hsz ?_; intro A' c' w6 ho6 hg6 hl6)
            go_roundg (k.procs.length - (r + 1))
            case measure => omega
            case rel =>
              refine ⟨r + 1, by omega, rfl, by go_num, ?_, hbx5.app ho5 hg6 (by omega), hor5.kept hg6 har.kept, ?_⟩
              · rw [HT.out, if_pos HIN.out, nv_snoc, List.length_append]; exact ho6
              · intro b h1 h2
                rcases hl6 with h3 | h3
                · rw [h3] at h2; exact har b h1 h2
                · rw [h3] at h2
                  have := (hor5.lt b h1).2
                  injection h2 with h2
                  omega
          · rw [mkd_markL_neg hfr] at hcf
            have HIN := Lib.hid (show ¬ AtP k a r from fun h => hfr (HA.out.1 h).2.2)
            clear hfr
            go_wp2_with fail
            go_roundg (k.procs.length - (r + 1))
            case measure => omega
            case rel => exact ⟨r + 1, by omega, rfl, by go_num, by rw [HT.out, if_neg HIN.out]; exact ho5, hbx5, hor5, har⟩
        · rw [mkd_markL_neg hrt] at hcr
          have HIN := Lib.hid (show ¬ AtP k a r from fun h => hrt (HA.out.1 h).2.1)
          clear hrt
          go_wp2_with fail
          go_roundg (k.procs.length - (r + 1))
          case measure => omega
          case rel => exact ⟨r + 1, by omega, rfl, by go_num, by rw [HT.out, if_neg HIN.out]; exact ho, hbx, hor, har⟩
      · obtain rfl : r = k.procs.length := by omega
        go_wp2_with fail
        go_ret
        exact ⟨Ao, co, rfl, own_mono ho (by omega), q1⟩
  · rw [mkd_markL_neg hlv] at hcl
    have HZ := Lib.hid (show listN k.procs.length (AtP k a) = [] from listN_none fun i _ h => hlv ((HATP.out i).1 h).1)
    clear hlv
    go_wp2_with fail
    go_ret
    rw [HZ.out]
    exact ⟨_, _, rfl, own_mono hpo2 (by omega), hbx2.1⟩

theorem apart_any (a b s : Nat) (w : World) (ha : a < 256) (hb : b < 256) (hs : s < 256) :
    Calls Tryz.prog 75 #[.int .i64 a, .int .i64 b, .int .i64 s] w fun e w' => e = .returned (.bool (apartB a b s)) ∧ w = w' := by
  have hab : a &&& b < 9223372036854775808 := Nat.lt_of_le_of_lt Nat.and_le_left (by omega)
  have e1 : bits .and .i64 (a : Int) (b : Int) = ((a &&& b : Nat) : Int) := i64_and_nat _ _ (by omega) (by omega)
  have e2 : bits .andNot .i64 ((a &&& b : Nat) : Int) (s : Int) = ((andNot (a &&& b) s : Nat) : Int) := i64_andNot_nat _ _ hab (by omega)
  by_cases h0 : a = 0
  · subst h0
    have HF := Lib.hid (show apartB 0 b s = false from by simp [apartB])
    clear e1 e2
    go_enter Tryz.func75, Tryz.ntmps75
    go_wp2_with fail
    go_ret
    exact ⟨ret_bool HF.out.symm, rfl⟩
  · by_cases h1 : b = 0
    · subst h1
      have HF := Lib.hid (show apartB a 0 s = false from by simp [apartB])
      have q0 : ((a : Int) == 0) = false := by simp; omega
      clear e1 e2 h0
      go_enter Tryz.func75, Tryz.ntmps75
      go_wp2_with fail
      go_ret
      exact ⟨ret_bool HF.out.symm, rfl⟩
    · have q0 : ((a : Int) == 0) = false := by simp; omega
      have q1 : ((b : Int) == 0) = false := by simp; omega
      have HP := Lib.hid (show apartB a b s = ((andNot (a &&& b) s != 0) || (a != b) || (a &&& (a - 1) != 0)) from by unfold apartB; rw [if_neg (by omega)])
      have e3 : (((andNot (a &&& b) s : Nat) : Int) != 0) = (andNot (a &&& b) s != 0) := by rw [bne, bne, cast_beq_zero]
      have e4 : ((a : Int) != (b : Int)) = (a != b) := by rw [bne, bne, cast_beq]
      have e5 : bits .and .i64 (a : Int) ((a : Int) - 1) = ((a &&& (a - 1) : Nat) : Int) := by
        rw [show (a : Int) - 1 = ((a - 1 : Nat) : Int) from by omega]
        exact i64_and_nat _ _ (by omega) (by omega)
      have e6 : (((a &&& (a - 1) : Nat) : Int) != 0) = (a &&& (a - 1) != 0) := by rw [bne, bne, cast_beq_zero]
      have hpos : (1 : Int) ≤ (a : Int) := by omega
      cases d1 : (andNot (a &&& b) s != 0)
      · rw [d1] at HP e3
        cases d2 : (a != b)
        · rw [d2] at HP e4
          cases d3 : (a &&& (a - 1) != 0)
          · rw [d3] at HP e6
            have HF := Lib.hid (show apartB a b s = false from HP.out)
            clear h0 h1 d1 d2 d3 HP
            go_enter Tryz.func75, Tryz.ntmps75
            go_wp2_with fail
            go_ret
            exact ⟨ret_bool HF.out.symm, rfl⟩
          · rw [d3] at HP e6
            have HF := Lib.hid (show apartB a b s = true from HP.out)
            clear h0 h1 d1 d2 d3 HP
            go_enter Tryz.func75, Tryz.ntmps75
            go_wp2_with fail
            go_ret
            exact ⟨ret_bool HF.out.symm, rfl⟩
        · rw [d2] at HP e4
          have HF := Lib.hid (show apartB a b s = true from HP.out)
          clear h0 h1 d1 d2 HP e5 e6
          go_enter Tryz.func75, Tryz.ntmps75
          go_wp2_with fail
          go_ret
          exact ⟨ret_bool HF.out.symm, rfl⟩
      · rw [d1] at HP e3
        have HF := Lib.hid (show apartB a b s = true from HP.out)
        clear h0 h1 d1 HP e4 e5 e6
        go_enter Tryz.func75, Tryz.ntmps75
        go_wp2_with fail
        go_ret
        exact ⟨ret_bool HF.out.symm, rfl⟩
/-- What Beside answers. -/
noncomputable def besideA (k : Cd) (x y : Int) : Bool := if (codeOkI k && (decide (0 ≤ x) && decide (x < k.ins.length)) && (decide (0 ≤ y) && decide (y < k.ins.length))) = true then besideB k x.toNat y.toNat else false
theorem apart_zero (a b s : Nat) (h : a = 0 ∨ b = 0) : apartB a b s = false := by unfold apartB; rw [if_pos h]
theorem besideA_eq {k : Cd} (hok : codeOkI k = true) (x y : Int) : apartB (atI k x (atN k)) (atI k y (atN k)) (singN k) = besideA k x y := by
  have hr := right_of hok
  unfold besideA
  cases hx : (decide (0 ≤ x) && decide (x < k.ins.length))
  · rw [atI_no (and_no2 hx), apart_zero _ _ _ (.inl rfl)]
    simp
  · cases hy : (decide (0 ≤ y) && decide (y < k.ins.length))
    · rw [atI_no (at_ := y) (and_no2 hy), apart_zero _ _ _ (.inr rfl)]
      simp
    · simp only [Bool.and_eq_true, decide_eq_true_eq] at hx hy
      obtain ⟨a, rfl⟩ := Int.eq_ofNat_of_zero_le hx.1
      obtain ⟨b, rfl⟩ := Int.eq_ofNat_of_zero_le hy.1
      rw [atI_yes hok (by omega), atI_yes hok (by omega), beside_eq hr, hok]
      simp
set_option maxHeartbeats 1000000 in
theorem beside_i {B L : Nat} (v : CV) (k : Cd) (x y : Int) (w : World) (hk : CodeAt w B v k) (hcb : CdB L k) (hL : L ≤ 1048576) :
    Calls Tryz.prog 47 #[.agg #[.slice v.gA k.globals.length v.gc, .slice v.lA k.locks.length v.lc, .slice v.pA k.procs.length v.pc, .slice v.eA k.entry.length v.ec, .slice v.iA k.ins.length v.ic], .int .i64 x, .int .i64 y] w (fun e w' => e = .returned (.bool (besideA k x y)) ∧ Below w.heap.size w w') := by
  have hkf := hk.full
  have hbx := codeBox w v k
  cases hok : codeOkI k
  · have HW := Lib.hid (fun W (h : CodeAt W w.heap.size v k) => worldOf_no v k W h hcb (by omega) hok)
    have HZ := Lib.hid (show besideA k x y = false from by unfold besideA; rw [hok]; simp)
    clear hok hcb hk
    go_enter Tryz.func47, Tryz.ntmps47
    go_wp2_with fail
    generalize w.alloc (.cells #[.slice v.gA k.globals.length v.gc, .slice v.lA k.locks.length v.lc, .slice v.pA k.procs.length v.pc, .slice v.eA k.entry.length v.ec, .slice v.iA k.ins.length v.ic] 33) = W at hbx ⊢
    refine (HW.out _ (hkf.below hbx.1)).mono ?_
    rintro e w1 ⟨rfl, hb1⟩
    go_wp2_with fail
    go_ret
    exact ⟨ret_bool HZ.out.symm, below_trans' hbx.1 hb1⟩
  · have hr := right_of hok
    have h8 := pow_le_256 hr
    have HW := Lib.hid (fun W (h : CodeAt W w.heap.size v k) => worldOf_yes v k W h hcb (by omega) hok)
    have HRA := Lib.hid (fun z W g (h : WAt W W.heap.size g v k) => rootsAt_pub g v k z W hr hok h)
    have HSG := Lib.hid (fun W g (h : WAt W W.heap.size g v k) => singles_any g v k W hr h)
    have HAP := Lib.hid (fun W => (show Calls Tryz.prog 75 #[.int .i64 (atI k x (atN k) : Nat), .int .i64 (atI k y (atN k) : Nat), .int .i64 (singN k : Nat)] W fun e w' => e = .returned (.bool (besideA k x y)) ∧ W = w' from by
      have := apart_any (atI k x (atN k)) (atI k y (atN k)) (singN k) W (Nat.lt_of_lt_of_le (atI_lt k x) h8) (Nat.lt_of_lt_of_le (atI_lt k y) h8) (Nat.lt_of_lt_of_le (setN_lt _ _) h8)
      rw [besideA_eq hok] at this
      exact this))
    clear hok hcb hk hr
    have HRX := Lib.hid (HRA.out x)
    have HRY := Lib.hid (HRA.out y)
    clear HRA
    generalize atI k x (atN k) = s at *
    generalize atI k y (atN k) = t at *
    generalize singN k = u at *
    go_enter Tryz.func47, Tryz.ntmps47
    go_wp2_with fail
    generalize w.alloc (.cells #[.slice v.gA k.globals.length v.gc, .slice v.lA k.locks.length v.lc, .slice v.pA k.procs.length v.pc, .slice v.eA k.entry.length v.ec, .slice v.iA k.ins.length v.ic] 33) = W at hbx ⊢
    refine (HW.out _ (hkf.below hbx.1)).mono ?_
    rintro e w1 ⟨g, rfl, hgl, hW, hb1⟩
    have hb01 := below_trans' hbx.1 hb1
    go_wp2_with fail
    refine (HRX.out _ _ hW).mono ?_
    rintro e w2 ⟨rfl, hb2⟩
    have hW2 := hW.below hb2
    go_wp2_with fail
    refine (HRY.out _ _ hW2).mono ?_
    rintro e w3 ⟨rfl, hb3⟩
    have hW3 := hW2.below hb3
    go_wp2_with fail
    refine (HSG.out _ _ hW3).mono ?_
    rintro e w4 ⟨rfl, hb4⟩
    go_wp2_with fail
    refine (HAP.out _).mono ?_
    rintro e w5 ⟨rfl, rfl⟩
    go_wp2_with fail
    go_ret
    exact ⟨rfl, below_trans' (below_trans' (below_trans' hb01 hb2) hb3) hb4⟩
end Go.Proofs.YtfecdgjnncpcjaaGreat
