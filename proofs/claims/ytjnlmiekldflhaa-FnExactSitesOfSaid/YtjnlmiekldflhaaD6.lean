/- Contracts of AheadOf, of the program and of the reference. -/
import Derived.Test.YtjnlmiekldflhaaD5
set_option linter.unusedSimpArgs false
set_option linter.unusedVariables false
namespace Go.Proofs.Ytjnlmiekldflhaa
open Go.ChangeShapes Go.WideShapes Go.ChangeAt Go.RowKit
theorem sites_len {k : Cd} {x : Int} : (procL k x (fun x => sitesL k 4 x (List.range k.procs.length))).length ≤ 1048576 := by
  unfold procL
  split
  · rename_i h
    simp only [Bool.and_eq_true] at h
    have hr := right_of h.1
    have h1 := hr.ins
    have h2 := hr.procs
    refine Nat.le_trans (sitesL_len k 4 _ _) (Nat.le_trans (Nat.mul_le_mul (show (List.range k.procs.length).length ≤ 8 by simp; omega) h1) (by omega))
  · simp
theorem nextL_nodup (k : Cd) (a : Nat) : (nextL k a).Nodup := by
  unfold nextL
  repeat' split
  all_goals simp
  rename_i h
  exact fun e => h.2 e.symm
open Classical in
/-- b once, if x is among the first j. -/
noncomputable def once (ns : List Nat) (x b j : Nat) : List Nat := if x ∈ ns.take j then [b] else []
theorem once_zero (ns : List Nat) (x b : Nat) : once ns x b 0 = [] := by simp [once]
theorem once_yes {ns : List Nat} (hn : ns.Nodup) {x b j : Nat} (hj : j < ns.length) (h : ns[j] = x) : once ns x b j = [] ∧ once ns x b (j + 1) = [b] := by
  subst h
  constructor
  · unfold once
    rw [if_neg]
    intro h1
    obtain ⟨i, h2, h3⟩ := List.mem_take_iff_getElem.1 h1
    exact List.pairwise_iff_getElem.1 hn i j (by omega) hj (by omega) h3
  · have h1 : ns[j] ∈ ns.take (j + 1) := by
      rw [List.take_succ_eq_append_getElem hj]
      exact List.mem_append_right _ (List.mem_singleton.2 rfl)
    unfold once
    rw [if_pos h1]
theorem once_no {ns : List Nat} {x b j : Nat} (hj : j < ns.length) (h : ns[j] ≠ x) : once ns x b (j + 1) = once ns x b j := by
  unfold once
  congr 1
  rw [List.take_succ_eq_append_getElem hj]
  simp only [List.mem_append, List.mem_singleton, eq_iff_iff]
  exact ⟨fun h1 => h1.resolve_right fun h2 => h h2.symm, .inl⟩
theorem once_all (ns : List Nat) (x b n : Nat) (P : Nat → Prop) (h : P b ↔ x ∈ ns) : listN b P ++ once ns x b ns.length = listN (b + 1) P := by
  rw [listN_succ, once, List.take_length]
  by_cases e : x ∈ ns
  · rw [if_pos e, if_pos (h.2 e)]
  · rw [if_neg e, if_neg fun h1 => e (h.1 h1)]
    simp
theorem once_len (ns : List Nat) (x b j : Nat) : (once ns x b j).length ≤ 1 := by
  unfold once
  split <;> simp

set_option maxHeartbeats 1000000 in
theorem aheadOf_i {B L : Nat} (v : CV) (k : Cd) (at_ : Int) (w : World) (hk : CodeAt w B v k) (hcb : CdB L k) (hL : L ≤ 1048576) :
    Calls Try.prog 41 #[.agg #[.slice v.gA k.globals.length v.gc, .slice v.lA k.locks.length v.lc, .slice v.pA k.procs.length v.pc, .slice v.eA k.entry.length v.ec, .slice v.iA k.ins.length v.ic], .int .i64 at_] w (NewNats w (atL k at_ (fun x => listN k.ins.length (fun b => x ∈ nextL k b)))) := by
  have hkf := hk.full
  have hbx := codeBox w v k
  have hpl0 := hcb.procs
  have hil0 := hcb.ins
  cases hok : codeOkI k
  · have HW := Lib.hid (fun W (h : CodeAt W w.heap.size v k) => worldOf_no v k W h hcb (by omega) hok)
    have HZ := Lib.hid (show ∀ w', Below w.heap.size w w' → NewNats w (atL k at_ (fun x => listN k.ins.length (fun b => x ∈ nextL k b))) (.returned (.slice none 0 0)) w' from fun w' h => newNil (atL_no (and_no1 hok)) h)
    clear hok hcb hk
    go_enter Try.func41, Try.ntmps41
    go_wp2_with fail
    generalize w.alloc (.cells #[.slice v.gA k.globals.length v.gc, .slice v.lA k.locks.length v.lc, .slice v.pA k.procs.length v.pc, .slice v.eA k.entry.length v.ec, .slice v.iA k.ins.length v.ic] 33) = W at hbx ⊢
    refine (HW.out _ (hkf.below hbx.1)).mono ?_
    rintro e w1 ⟨rfl, hb1⟩
    go_wp2_with fail
    go_ret
    exact HZ.out _ (below_trans' hbx.1 hb1)
  · have HR := Lib.hid (right_of hok)
    have HW := Lib.hid (fun W (h : CodeAt W w.heap.size v k) => worldOf_yes v k W h hcb (by omega) hok)
    cases hpl : (decide (0 ≤ at_) && decide (at_ < k.ins.length))
    · have HZ := Lib.hid (show ∀ w', Below w.heap.size w w' → NewNats w (atL k at_ (fun x => listN k.ins.length (fun b => x ∈ nextL k b))) (.returned (.slice none 0 0)) w' from fun w' h => newNil (atL_no (and_no2 hpl)) h)
      have HPL := Lib.hid hpl
      clear hok hpl hcb hk
      go_enter Try.func41, Try.ntmps41
      go_wp2_with fail
      generalize w.alloc (.cells #[.slice v.gA k.globals.length v.gc, .slice v.lA k.locks.length v.lc, .slice v.pA k.procs.length v.pc, .slice v.eA k.entry.length v.ec, .slice v.iA k.ins.length v.ic] 33) = W at hbx ⊢
      refine (HW.out _ (hkf.below hbx.1)).mono ?_
      rintro e w1 ⟨g, rfl, hgl, hW, hb1⟩
      have hbx1 := hbx.to hb1
      obtain ⟨hbw, hsz, c0, c1, c2, c3, c4⟩ := id hbx1
      go_wp2_with fail
      refine (isPlace_any v k _ _).mono ?_
      rintro e w2 ⟨rfl, hb2⟩
      rw [HPL.out]
      go_wp2_with fail
      go_ret
      exact HZ.out _ (below_trans' hbw hb2)
    · obtain ⟨a, rfl, hal⟩ : ∃ a : Nat, at_ = a ∧ a < k.ins.length := by
        simp only [Bool.and_eq_true, decide_eq_true_eq] at hpl
        exact ⟨at_.toNat, by omega, by omega⟩
      have HY := Lib.hid (atL_yes (F := fun x => listN k.ins.length (fun b => x ∈ nextL k b)) hok hal)
      have HPL := Lib.hid hpl
      clear hok hpl hcb hk
      go_enter Try.func41, Try.ntmps41
      go_wp2_with fail
      generalize w.alloc (.cells #[.slice v.gA k.globals.length v.gc, .slice v.lA k.locks.length v.lc, .slice v.pA k.procs.length v.pc, .slice v.eA k.entry.length v.ec, .slice v.iA k.ins.length v.ic] 33) = W at hbx ⊢
      refine (HW.out _ (hkf.below hbx.1)).mono ?_
      rintro e w1 ⟨g, rfl, hgl, hW, hb1⟩
      have hbx1 := hbx.to hb1
      obtain ⟨hbw, hsz, c0, c1, c2, c3, c4⟩ := id hbx1
      go_wp2_with fail
      refine (isPlace_any v k _ _).mono ?_
      rintro e w2 ⟨rfl, hb2⟩
      rw [HPL.out]
      clear c0 c1 c2 c3 c4
      have hW2 := hW.below hb2
      have hb02 := below_trans' hbw hb2
      have hbx2 := hbx1.to hb2
      clear hbx1 hbw hsz hb2 hb1 hbx
      have hins := HR.out.ins
      have HNX := Lib.hid (fun b (hb : b < k.ins.length) W (hw : Below w2.heap.size w2 W) => nextIn_any g v k b W HR.out (hW2.code.below hw) (hW2.kat.to hw) hb)
      obtain ⟨q1, q2, c0, c1, c2, c3, c4⟩ := id hbx2
      go_wp2_with fail
      clear q1 q2 c0 c1 c2 c3 c4
      go_loopg [7, 27] k.ins.length (fun l out i wr => ∃ b : Nat, b ≤ k.ins.length ∧ l = k.ins.length - b ∧ i = .int .i64 b ∧ wr.ownsRow w2.heap.size 3 1 out (listN b (fun b => a ∈ nextL k b)).length (nv (listN b (fun b => a ∈ nextL k b))) ∧ Below w2.heap.size w2 wr)
      case atStart => exact ⟨0, by omega, by omega, rfl, World.ownsRow_nil _ _ _ _, Below.refl _ _⟩
      case round =>
        obtain ⟨b, hb, rfl, rfl, ho, hbw⟩ := hrel
        obtain ⟨Ao, co, rfl⟩ := own_form ho
        have hll := listN_len b (fun b => a ∈ nextL k b)
        by_cases hlt : b < k.ins.length
        · have HC := Lib.hid (HNX.out b hlt wr hbw)
          have HND := Lib.hid (nextL_nodup k b)
          have HAL := Lib.hid (once_all (nextL k b) a b 0 (fun b => a ∈ nextL k b) Iff.rfl)
          have hnl := nextL_len k b
          go_wp2_with fail
          refine HC.out.mono ?_
          rintro e w3 ⟨An, cn, rfl, hon, hb3⟩
          have ho3 := own_below ho hb3
          have hbw3 := below_trans' hbw hb3
          have hap : Apart (.slice An (nextL k b).length cn) (.slice Ao (listN b (fun b => a ∈ nextL k b)).length co) := fun c h1 h2 => by
            have h3 := (hon.lt c h1).1
            have h4 := (ho.lt c h2).2
            omega
          generalize hP : listN (b + 1) (fun b => a ∈ nextL k b) = out2 at HAL
          have HP := Lib.hid hP
          clear hP
          generalize listN b (fun b => a ∈ nextL k b) = out0 at ho3 ho hll HAL hap ⊢
          generalize nextL k b = ns at hon HND HAL hnl hap ⊢
          clear ho
          go_wp2_with fail
          obtain ⟨wo, rfl⟩ : ∃ wo : World, wo = wr := ⟨_, rfl⟩
          go_loopg [7, 34] ns.length (fun l out i wr => ∃ j : Nat, j ≤ ns.length ∧ l = ns.length - j ∧ i = .int .i64 j ∧ wr.ownsRow w2.heap.size 3 1 out (out0 ++ once ns a b j).length (nv (out0 ++ once ns a b j)) ∧ Below w2.heap.size w2 wr ∧ wr.ownsRow wo.heap.size 3 1 (.slice An ns.length cn) ns.length (nv ns) ∧ Apart (.slice An ns.length cn) out)
          case atStart =>
            refine ⟨0, by omega, by omega, rfl, ?_, hbw3, hon, hap⟩
            rw [once_zero, List.append_nil]
            exact ho3
          case round =>
            clear ho3 hbw3 hon hap
            obtain ⟨j, hj, rfl, rfl, ho, hbw, hon, hap⟩ := hrel
            obtain ⟨A3, c3', rfl⟩ := own_form ho
            have hol := once_len ns a b j
            have hlen : (out0 ++ once ns a b j).length ≤ 10000 := by rw [List.length_append]; omega
            have hsz := hbw.size
            by_cases hltj : j < ns.length
            · obtain ⟨adn, rfl, hbn, hcj⟩ := (own_rd hon).nat hltj
              by_cases he : ns[j] = a
              · have e1 : ((ns[j] : Int) == (a : Int)) = true := by simp [he]
                obtain ⟨o1, o2⟩ := once_yes (b := b) HND.out hltj he
                have HO2 := Lib.hid o2
                rw [o1, List.append_nil] at ho hlen hap ⊢
                clear he o1 o2 hol
                go_wp2_with (at_builtin; refine append_int rfl _ _ rfl ho rfl rfl (by omega) hsz ?_; intro A' c' w5 ho5 hg5 hl5)
                go_roundg (ns.length - (j + 1))
                case measure => omega
                case rel =>
                  refine ⟨j + 1, by omega, rfl, by go_num, ?_, below_append hbw ho hg5 hsz (Nat.le_refl _), hon.kept hg5 hap.kept, ?_⟩
                  · rw [HO2.out, nv_snoc, List.length_append]; exact ho5
                  · intro c h1 h2
                    rcases hl5 with h3 | h3
                    · rw [h3] at h2; exact hap c h1 h2
                    · rw [h3] at h2
                      have := (hon.lt c h1).2
                      injection h2 with h2
                      omega
              · have e1 : ((ns[j] : Int) == (a : Int)) = false := by simp; omega
                have HO2 := Lib.hid (once_no (b := b) hltj he)
                generalize hO : out0 ++ once ns a b j = out1 at ho hlen hap
                have HO := Lib.hid hO
                clear he hO hol
                go_wp2_with fail
                go_roundg (ns.length - (j + 1))
                case measure => omega
                case rel => exact ⟨j + 1, by omega, rfl, by go_num, by rw [HO2.out, HO.out]; exact ho, hbw, hon, hap⟩
            · obtain rfl : j = ns.length := by omega
              rw [HAL.out] at ho hlen hap ⊢
              go_wp2_with fail
              go_roundg (k.ins.length - (b + 1))
              case measure => omega
              case rel => exact ⟨b + 1, by omega, rfl, by go_num, by rw [HP.out]; exact ho, hbw⟩
        · obtain rfl : b = k.ins.length := by omega
          go_wp2_with fail
          go_ret
          exact NewNats.more ⟨Ao, co, rfl, ho, hbw⟩ hb02 HY.out

set_option maxHeartbeats 1000000 in
theorem aheadOf_s {B L : Nat} (v : CV) (k : Cd) (at_ : Int) (w : World) (hk : CodeAt w B v k) (hcb : CdB L k) (hL : L ≤ 1048576) :
    Calls Try.prog 40 #[.agg #[.slice v.gA k.globals.length v.gc, .slice v.lA k.locks.length v.lc, .slice v.pA k.procs.length v.pc, .slice v.eA k.entry.length v.ec, .slice v.iA k.ins.length v.ic], .int .i64 at_] w (NewNats w (atL k at_ (fun x => listN k.ins.length (fun b => x ∈ nextL k b)))) := by
  have hkf := hk.full
  obtain ⟨hbx, hpo⟩ := preOut w v k
  have hpl0 := hcb.procs
  have hil0 := hcb.ins
  have HG := Lib.hid (fun W (h : CodeAt W w.heap.size v k) => l09At_any v k at_ W h hcb (by omega))
  cases hok : (codeOkI k && (decide (0 ≤ at_) && decide (at_ < k.ins.length)))
  · have HZ := Lib.hid (atL_no (F := fun x => listN k.ins.length (fun b => x ∈ nextL k b)) hok)
    rw [hok] at HG
    clear hok hcb hk
    go_enter Try.func40, Try.ntmps40
    go_wp2_with fail
    generalize (w.alloc (.cells #[.slice v.gA k.globals.length v.gc, .slice v.lA k.locks.length v.lc, .slice v.pA k.procs.length v.pc, .slice v.eA k.entry.length v.ec, .slice v.iA k.ins.length v.ic] 33)).alloc (.cells #[] 3) = W at hbx hpo ⊢
    refine (HG.out _ (hkf.below hbx.1)).mono ?_
    rintro e w1 ⟨rfl, hb1⟩
    have ho1 := own_below hpo hb1
    go_wp2_with fail
    go_ret
    rw [HZ.out]
    exact ⟨_, _, rfl, own_mono ho1 (by omega), below_trans' hbx.1 hb1⟩
  · rw [hok] at HG
    obtain ⟨hok1, x, rfl, hal⟩ : codeOkI k = true ∧ ∃ a : Nat, at_ = a ∧ a < k.ins.length := by
      simp only [Bool.and_eq_true, decide_eq_true_eq] at hok
      exact ⟨hok.1, at_.toNat, by omega, by omega⟩
    have HR := Lib.hid (right_of hok1)
    have HY := Lib.hid (atL_yes (F := fun x => listN k.ins.length (fun b => x ∈ nextL k b)) hok1 hal)
    have HCB := Lib.hid hcb
    have hins := HR.out.ins
    have hpl := HR.out.procs
    clear hok hok1 hcb hk
    go_enter Try.func40, Try.ntmps40
    go_wp2_with fail
    generalize (w.alloc (.cells #[.slice v.gA k.globals.length v.gc, .slice v.lA k.locks.length v.lc, .slice v.pA k.procs.length v.pc, .slice v.eA k.entry.length v.ec, .slice v.iA k.ins.length v.ic] 33)).alloc (.cells #[] 3) = W at hbx hpo ⊢
    refine (HG.out _ (hkf.below hbx.1)).mono ?_
    rintro e w2 ⟨rfl, hb2⟩
    have hbx2 := hbx.to hb2
    have hpo2 := own_below hpo hb2
    clear hbx hb2 hpo
    go_wp2_with fail
    have HNX := Lib.hid (fun b (hb : b < k.ins.length) W (h : CodeAt W w.heap.size v k) => l09Next_any v k b W HR.out h hb)
    go_loopg [5, 6] k.ins.length (fun l out i wr => ∃ b : Nat, b ≤ k.ins.length ∧ l = k.ins.length - b ∧ i = .int .i64 b ∧ wr.ownsRow (w.heap.size + 1) 3 1 out (listN b (fun b => x ∈ nextL k b)).length (nv (listN b (fun b => x ∈ nextL k b))) ∧ CodeBox w v k wr)
    case atStart => exact ⟨0, by omega, by omega, rfl, hpo2, hbx2⟩
    case round =>
      clear hpo2 hbx2
      obtain ⟨b, hb, rfl, rfl, ho, hbx⟩ := hrel
      obtain ⟨Ao, co, rfl⟩ := own_form ho
      obtain ⟨q1, q2, c0, c1, c2, c3, c4⟩ := id hbx
      have hll := listN_len b (fun b => x ∈ nextL k b)
      by_cases hlt : b < k.ins.length
      · have HC := Lib.hid (HNX.out b hlt wr (hkf.below hbx.1))
        have HT := Lib.hid (listN_succ b (fun b => x ∈ nextL k b))
        have hnl := nextL_len k b
        go_wp2_with fail
        refine HC.out.mono ?_
        rintro e w3 ⟨An, cn, rfl, hon, hb3⟩
        have ho3 := own_below ho hb3
        have hbx3 := hbx.to hb3
        have HH := Lib.hid (l09Has_any An cn (nextL k b) x w3 (own_rd hon) (by omega))
        clear c0 c1 c2 c3 c4 q1 q2 ho hbx
        go_wp2_with fail
        refine HH.out.mono ?_
        rintro e w4 ⟨rfl, hb4⟩
        have ho4 := own_below ho3 hb4
        have hbx4 := hbx3.to hb4
        have hsz : w.heap.size + 1 ≤ w4.heap.size := hbx4.2.1
        clear ho3 hbx3 HH
        by_cases he : x ∈ nextL k b
        · have ed : decide (x ∈ nextL k b) = true := by simpa using he
          rw [ed]
          have HE := Lib.hid he
          clear he ed
          go_wp2_with (at_builtin; refine append_int rfl _ _ rfl ho4 rfl rfl (by omega) hsz ?_; intro A' c' w5 ho5 hg5 hl5)
          go_roundg (k.ins.length - (b + 1))
          case measure => omega
          case rel => exact ⟨b + 1, by omega, rfl, by go_num, by rw [HT.out, if_pos HE.out, nv_snoc, List.length_append]; exact ho5, hbx4.app ho4 hg5 (by omega)⟩
        · have ed : decide (x ∈ nextL k b) = false := by simpa using he
          rw [ed]
          have HE := Lib.hid he
          clear he ed
          go_wp2_with fail
          go_roundg (k.ins.length - (b + 1))
          case measure => omega
          case rel => exact ⟨b + 1, by omega, rfl, by go_num, by rw [HT.out, if_neg HE.out]; exact ho4, hbx4⟩
      · obtain rfl : b = k.ins.length := by omega
        go_wp2_with fail
        go_ret
        rw [HY.out]
        exact ⟨Ao, co, rfl, own_mono ho (by omega), hbx.1⟩
end Go.Proofs.Ytjnlmiekldflhaa
