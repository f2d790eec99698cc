/- Contracts of FromEntry of the program and of the reference. -/
import Derived.Test.YtfecdgjnncpcjaaG1
set_option linter.unusedSimpArgs false
set_option linter.unusedVariables false
namespace Go.Proofs.Ytfecdgjnncpcjaa
open Go.ChangeShapes Go.WideShapes Go.ChangeAt Go.RowKit

/-- What FromEntry answers. -/
noncomputable def fromL (k : Cd) (es : List (Int × Int)) (p h : Int) : List Nat :=
  if codeOkI k = true ∧ (decide (0 ≤ p) && decide (p < k.procs.length)) = true ∧ isSetB h = true ∧ tabB k.procs.length es = true then flowN k es p.toNat h.toNat else []
theorem fromL_no {k : Cd} {es : List (Int × Int)} {p h : Int} (hn : codeOkI k = false ∨ (decide (0 ≤ p) && decide (p < k.procs.length)) = false ∨ isSetB h = false ∨ tabB k.procs.length es = false) : fromL k es p h = [] := by
  rw [fromL, if_neg]
  rintro ⟨h1, h2, h3, h4⟩
  rcases hn with e | e | e | e
  · rw [h1] at e; simp at e
  · rw [h2] at e; simp at e
  · rw [h3] at e; simp at e
  · rw [h4] at e; simp at e
theorem fromL_yes {k : Cd} {es : List (Int × Int)} {p h : Nat} (h1 : codeOkI k = true) (h2 : p < k.procs.length) (h3 : isSetB (h : Int) = true) (h4 : tabB k.procs.length es = true) : fromL k es p h = flowN k es p h := by
  rw [fromL, if_pos ⟨h1, by simp; exact h2, h3, h4⟩, Int.toNat_natCast, Int.toNat_natCast]
theorem fromL_len (k : Cd) (es : List (Int × Int)) (p h : Int) : (fromL k es p h).length ≤ k.ins.length := by
  unfold fromL
  split
  · rename_i h1
    have hp : p.toNat < k.procs.length := by
      have := h1.2.1
      simp only [Bool.and_eq_true, decide_eq_true_eq] at this
      omega
    exact Nat.le_of_eq (flowN_len (right_of h1.1) hp)
  · simp

set_option maxHeartbeats 4000000 in
theorem fromEntry_i {B B' L : Nat} (v : CV) (k : Cd) (A : Option Addr) (c : Nat) (es : List (Int × Int)) (p_ held : Int) (w : World) (hk : CodeAt w B v k) (hcb : CdB L k) (hL : L ≤ 1048576) (he : Rd w B' A (effCells es)) (hn : es.length ≤ 1048576) :
    Calls Try.prog 26 #[.agg #[.slice v.gA k.globals.length v.gc, .slice v.lA k.locks.length v.lc, .slice v.pA k.procs.length v.pc, .slice v.eA k.entry.length v.ec, .slice v.iA k.ins.length v.ic], .slice A es.length c, .int .i64 p_, .int .i64 held] w (NewNats w (fromL k es p_ held)) := by
  have hkf := hk.full
  have hef := he.full
  have hbx := codeBox w v k
  have hpl0 := hcb.procs
  have hil0 := hcb.ins
  have HN := Lib.hid (fun h => fromL_no (k := k) (es := es) (p := p_) (h := held) h)
  have hx1 : ∀ b, (decide (0 ≤ p_) && decide (p_ < k.procs.length)) = b → b = true → ∃ n : Nat, p_ = n ∧ n < k.procs.length := fun b h1 h2 => by
    rw [h2] at h1
    simp only [Bool.and_eq_true, decide_eq_true_eq] at h1
    exact ⟨p_.toNat, by omega, by omega⟩
  have hx2 : ∀ b, isSetB held = b → b = true → ∃ n : Nat, held = n ∧ n < 64 := fun b h1 h2 => isSetB_nat (h1.trans h2)
  have HS := Lib.hid (fun W => isSet_any held W)
  have HE := Lib.hid (fun W (h : Rd W w.heap.size A (effCells es)) => effectsRight_any A c k.procs.length es W h hn (by omega))
  cases hok : codeOkI k
  · have HW := Lib.hid (fun W (h : CodeAt W w.heap.size v k) => worldOf_no v k W h hcb (by omega) hok)
    have HZ := Lib.hid (HN.out (.inl hok))
    clear hok hcb hk he hx1 hx2
    go_enter Try.func26, Try.ntmps26
    go_wp2_with fail
    generalize w.alloc (.cells #[.slice v.gA k.globals.length v.gc, .slice v.lA k.locks.length v.lc, .slice v.pA k.procs.length v.pc, .slice v.eA k.entry.length v.ec, .slice v.iA k.ins.length v.ic] 31) = W at hbx ⊢
    refine (HW.out _ (hkf.below hbx.1)).mono ?_
    rintro e w1 ⟨rfl, hb1⟩
    go_wp2_with fail
    go_ret
    exact newNil HZ.out (below_trans' hbx.1 hb1)
  · have HR := Lib.hid (right_of hok)
    have HOK := Lib.hid hok
    have HW := Lib.hid (fun W (h : CodeAt W w.heap.size v k) => worldOf_yes v k W h hcb (by omega) hok)
    have HIP := Lib.hid (fun g W (h : KAt W g v k) => isProc_any g v k p_ W h (by omega))
    cases hpl : (decide (0 ≤ p_) && decide (p_ < k.procs.length))
    · have HZ := Lib.hid (HN.out (.inr (.inl hpl)))
      rw [hpl] at HIP
      clear hok hcb hk he hx1 hx2 hpl
      go_enter Try.func26, Try.ntmps26
      go_wp2_with fail
      generalize w.alloc (.cells #[.slice v.gA k.globals.length v.gc, .slice v.lA k.locks.length v.lc, .slice v.pA k.procs.length v.pc, .slice v.eA k.entry.length v.ec, .slice v.iA k.ins.length v.ic] 31) = W at hbx ⊢
      refine (HW.out _ (hkf.below hbx.1)).mono ?_
      rintro e w1 ⟨g, rfl, hgl, hW, hb1⟩
      go_wp2_with fail
      refine (HIP.out g _ hW.kat).mono ?_
      rintro e w2 ⟨rfl, rfl⟩
      go_wp2_with fail
      go_ret
      exact newNil HZ.out (below_trans' hbx.1 hb1)
    · obtain ⟨n, rfl, hnl⟩ := hx1 _ hpl rfl
      rw [hpl] at HIP
      cases hst : isSetB held
      · have HZ := Lib.hid (HN.out (.inr (.inr (.inl hst))))
        rw [hst] at HS
        clear hok hcb hk he hx1 hx2 hpl hst
        go_enter Try.func26, Try.ntmps26
        go_wp2_with fail
        generalize w.alloc (.cells #[.slice v.gA k.globals.length v.gc, .slice v.lA k.locks.length v.lc, .slice v.pA k.procs.length v.pc, .slice v.eA k.entry.length v.ec, .slice v.iA k.ins.length v.ic] 31) = W at hbx ⊢
        refine (HW.out _ (hkf.below hbx.1)).mono ?_
        rintro e w1 ⟨g, rfl, hgl, hW, hb1⟩
        go_wp2_with fail
        refine (HIP.out g _ hW.kat).mono ?_
        rintro e w2 ⟨rfl, rfl⟩
        go_wp2_with fail
        refine (HS.out _).mono ?_
        rintro e w3 ⟨rfl, rfl⟩
        go_wp2_with fail
        go_ret
        exact newNil HZ.out (below_trans' hbx.1 hb1)
      · obtain ⟨hd, rfl, hdl⟩ := hx2 _ hst rfl
        rw [hst] at HS
        cases htb : tabB k.procs.length es
        · have HZ := Lib.hid (HN.out (.inr (.inr (.inr htb))))
          rw [htb] at HE
          clear hok hcb hk he hx1 hx2 hpl hst htb
          go_enter Try.func26, Try.ntmps26
          go_wp2_with fail
          generalize w.alloc (.cells #[.slice v.gA k.globals.length v.gc, .slice v.lA k.locks.length v.lc, .slice v.pA k.procs.length v.pc, .slice v.eA k.entry.length v.ec, .slice v.iA k.ins.length v.ic] 31) = W at hbx ⊢
          refine (HW.out _ (hkf.below hbx.1)).mono ?_
          rintro e w1 ⟨g, rfl, hgl, hW, hb1⟩
          have hbx1 := hbx.to hb1
          obtain ⟨q1, q2, c0, c1, c2, c3, c4⟩ := id hbx1
          go_wp2_with fail
          refine (HIP.out g _ hW.kat).mono ?_
          rintro e w2 ⟨rfl, rfl⟩
          go_wp2_with fail
          refine (HS.out _).mono ?_
          rintro e w3 ⟨rfl, rfl⟩
          go_wp2_with fail
          refine (HE.out _ (hef.below hbx1.1)).mono ?_
          rintro e w4 ⟨rfl, hb4⟩
          go_wp2_with fail
          go_ret
          exact newNil HZ.out (below_trans' hbx1.1 hb4)
        · rw [htb] at HE
          have HY := Lib.hid (fromL_yes hok hnl hst htb)
          obtain ⟨hes, hel⟩ := effs_keep htb
          have HES := Lib.hid hes
          have HEL := Lib.hid hel
          clear hok hcb hk he hx1 hx2 hpl hst htb hes hel
          go_enter Try.func26, Try.ntmps26
          go_wp2_with fail
          generalize w.alloc (.cells #[.slice v.gA k.globals.length v.gc, .slice v.lA k.locks.length v.lc, .slice v.pA k.procs.length v.pc, .slice v.eA k.entry.length v.ec, .slice v.iA k.ins.length v.ic] 31) = W at hbx ⊢
          refine (HW.out _ (hkf.below hbx.1)).mono ?_
          rintro e w1 ⟨g, rfl, hgl, hW, hb1⟩
          have hbx1 := hbx.to hb1
          obtain ⟨q1, q2, c0, c1, c2, c3, c4⟩ := id hbx1
          go_wp2_with fail
          refine (HIP.out g _ hW.kat).mono ?_
          rintro e w2 ⟨rfl, rfl⟩
          go_wp2_with fail
          refine (HS.out _).mono ?_
          rintro e w3 ⟨rfl, rfl⟩
          go_wp2_with fail
          refine (HE.out _ (hef.below hbx1.1)).mono ?_
          rintro e w4 ⟨rfl, hb4⟩
          have hW4 := hW.below hb4
          have HC := Lib.hid (flow_any g v k A c es n hd w4 HR.out hW4 (hef.below (below_trans' hbx1.1 hb4)) HES.out HEL.out hnl hdl)
          have hb04 := below_trans' hbx1.1 hb4
          clear c0 c1 c2 c3 c4 q1 q2 hbx hbx1 hb1 hb4
          go_wp2_with fail
          refine HC.out.mono ?_
          rintro e w5 ⟨A3, c3', rfl, ho3, hb3⟩
          go_wp2_with fail
          go_ret
          exact NewNats.more ⟨A3, c3', rfl, ho3, hb3⟩ hb04 HY.out

set_option maxHeartbeats 4000000 in
theorem fromEntry_s {B B' L : Nat} (v : CV) (k : Cd) (A : Option Addr) (c : Nat) (es : List (Int × Int)) (p_ held : Int) (w : World) (hk : CodeAt w B v k) (hcb : CdB L k) (hL : L ≤ 1048576) (he : Rd w B' A (effCells es)) (hn : es.length ≤ 1048576) :
    Calls Try.prog 24 #[.agg #[.slice v.gA k.globals.length v.gc, .slice v.lA k.locks.length v.lc, .slice v.pA k.procs.length v.pc, .slice v.eA k.entry.length v.ec, .slice v.iA k.ins.length v.ic], .slice A es.length c, .int .i64 p_, .int .i64 held] w (NewNats w (fromL k es p_ held)) := by
  have hkf := hk.full
  have hef := he.full
  have hbx := codeBox w v k
  have hpl0 := hcb.procs
  have hil0 := hcb.ins
  have HN := Lib.hid (fun h => fromL_no (k := k) (es := es) (p := p_) (h := held) h)
  have hx1 : ∀ b, (decide (0 ≤ p_) && decide (p_ < k.procs.length)) = b → b = true → ∃ n : Nat, p_ = n ∧ n < k.procs.length := fun b h1 h2 => by
    rw [h2] at h1
    simp only [Bool.and_eq_true, decide_eq_true_eq] at h1
    exact ⟨p_.toNat, by omega, by omega⟩
  have hx2 : ∀ b, isSetB held = b → b = true → ∃ n : Nat, held = n ∧ n < 64 := fun b h1 h2 => isSetB_nat (h1.trans h2)
  have HS := Lib.hid (fun W => l12Ok_any held W)
  have HE := Lib.hid (fun W (h : Rd W w.heap.size A (effCells es)) => l13Table_any v k A c es W h hn (by omega))
  have HG := Lib.hid (fun W (h : CodeAt W w.heap.size v k) => l10Ok_any v k p_ W h hcb (by omega))
  cases hok : (codeOkI k && (decide (0 ≤ p_) && decide (p_ < k.procs.length)))
  · have HZ := Lib.hid (HN.out (by
      rcases Bool.and_eq_false_iff.1 hok with e | e
      · exact .inl e
      · exact .inr (.inl e)))
    rw [hok] at HG
    clear hok hcb hk he hx1 hx2
    go_enter Try.func24, Try.ntmps24
    go_wp2_with fail
    generalize w.alloc (.cells #[.slice v.gA k.globals.length v.gc, .slice v.lA k.locks.length v.lc, .slice v.pA k.procs.length v.pc, .slice v.eA k.entry.length v.ec, .slice v.iA k.ins.length v.ic] 31) = W at hbx ⊢
    refine (HG.out _ (hkf.below hbx.1)).mono ?_
    rintro e w1 ⟨rfl, hb1⟩
    go_wp2_with fail
    go_ret
    exact newNil0 HZ.out (below_trans' hbx.1 hb1)
  · rw [hok] at HG
    have hok2 := hok
    simp only [Bool.and_eq_true] at hok2
    obtain ⟨n, rfl, hnl⟩ := hx1 true (by simpa using hok2.2) rfl
    have HR := Lib.hid (right_of hok2.1)
    cases htb : tabB k.procs.length es
    · have HZ := Lib.hid (HN.out (.inr (.inr (.inr htb))))
      rw [htb] at HE
      clear hok hok2 hcb hk he hx1 hx2 htb
      go_enter Try.func24, Try.ntmps24
      go_wp2_with fail
      generalize w.alloc (.cells #[.slice v.gA k.globals.length v.gc, .slice v.lA k.locks.length v.lc, .slice v.pA k.procs.length v.pc, .slice v.eA k.entry.length v.ec, .slice v.iA k.ins.length v.ic] 31) = W at hbx ⊢
      refine (HG.out _ (hkf.below hbx.1)).mono ?_
      rintro e w1 ⟨rfl, hb1⟩
      have hbx1 := hbx.to hb1
      obtain ⟨q1, q2, c0, c1, c2, c3, c4⟩ := id hbx1
      go_wp2_with fail
      refine (HE.out _ (hef.below hbx1.1)).mono ?_
      rintro e w2 ⟨rfl, hb2⟩
      go_wp2_with fail
      go_ret
      exact newNil0 HZ.out (below_trans' hbx1.1 hb2)
    · rw [htb] at HE
      cases hst : isSetB held
      · have HZ := Lib.hid (HN.out (.inr (.inr (.inl hst))))
        rw [hst] at HS
        clear hok hok2 hcb hk he hx1 hx2 htb hst
        go_enter Try.func24, Try.ntmps24
        go_wp2_with fail
        generalize w.alloc (.cells #[.slice v.gA k.globals.length v.gc, .slice v.lA k.locks.length v.lc, .slice v.pA k.procs.length v.pc, .slice v.eA k.entry.length v.ec, .slice v.iA k.ins.length v.ic] 31) = W at hbx ⊢
        refine (HG.out _ (hkf.below hbx.1)).mono ?_
        rintro e w1 ⟨rfl, hb1⟩
        have hbx1 := hbx.to hb1
        obtain ⟨q1, q2, c0, c1, c2, c3, c4⟩ := id hbx1
        go_wp2_with fail
        refine (HE.out _ (hef.below hbx1.1)).mono ?_
        rintro e w2 ⟨rfl, hb2⟩
        go_wp2_with fail
        refine (HS.out _).mono ?_
        rintro e w3 ⟨rfl, rfl⟩
        go_wp2_with fail
        go_ret
        exact newNil0 HZ.out (below_trans' hbx1.1 hb2)
      · obtain ⟨hd, rfl, hdl⟩ := hx2 _ hst rfl
        rw [hst] at HS
        have HY := Lib.hid (fromL_yes hok2.1 hnl hst htb)
        obtain ⟨hes, hel⟩ := effs_keep htb
        have HES := Lib.hid hes
        have HEL := Lib.hid hel
        clear hok hok2 hcb hk he hx1 hx2 htb hst hes hel
        go_enter Try.func24, Try.ntmps24
        go_wp2_with fail
        generalize w.alloc (.cells #[.slice v.gA k.globals.length v.gc, .slice v.lA k.locks.length v.lc, .slice v.pA k.procs.length v.pc, .slice v.eA k.entry.length v.ec, .slice v.iA k.ins.length v.ic] 31) = W at hbx ⊢
        refine (HG.out _ (hkf.below hbx.1)).mono ?_
        rintro e w1 ⟨rfl, hb1⟩
        have hbx1 := hbx.to hb1
        obtain ⟨q1, q2, c0, c1, c2, c3, c4⟩ := id hbx1
        go_wp2_with fail
        refine (HE.out _ (hef.below hbx1.1)).mono ?_
        rintro e w2 ⟨rfl, hb2⟩
        have hbx2 := hbx1.to hb2
        clear c0 c1 c2 c3 c4 q1 q2
        obtain ⟨q1, q2, c0, c1, c2, c3, c4⟩ := id hbx2
        have HC := Lib.hid (l13From_any v k A c es n hd w2 HR.out (hkf.below hbx2.1) (hef.below hbx2.1) HES.out HEL.out hnl hdl)
        have hb02 := hbx2.1
        clear hbx hbx1 hb1 hb2 hbx2
        go_wp2_with fail
        refine (HS.out _).mono ?_
        rintro e w3 ⟨rfl, rfl⟩
        go_wp2_with fail
        refine HC.out.mono ?_
        rintro e w5 ⟨A3, c3', rfl, ho3, hb3⟩
        go_wp2_with fail
        go_ret
        exact NewNats.more ⟨A3, c3', rfl, ho3, hb3⟩ hb02 HY.out
end Go.Proofs.Ytfecdgjnncpcjaa
