/- In drawn code more that is held ahead is no less behind, a procedure's few words are true of each way through it, and they are what they themselves lead to: the law FnEffects returns true. No condition beyond the given statement's own. -/
import Derived.Test.YtkgoajnnkimkaaaGreatH26
import Derived.Test.YtkgoajnnkimkaaaGreatMFnEffectsa
set_option linter.unusedSimpArgs false
set_option linter.unusedVariables false
namespace Go.Proofs.YtkgoajnnkimkaaaGreat.fnEffects
open Go.ChangeShapes Go.WideShapes Go.ChangeAt Go.RowKit

set_option maxRecDepth 100000 in
set_option maxHeartbeats 16000000 in
theorem walk (b : List UInt8) (A : Option Addr) (c : Nat) (w : World) (h : Rd w w.heap.size A (bytesV b)) (hn : b.length ≤ 9223372036854775807) :
    Calls Tryz.prog 3 #[.slice A b.length c] w fun e w' => e = .returned (.bool true) ∧ Below w.heap.size w w' := by
  by_cases hbig : 1048576 < b.length
  · have HB := Lib.hid (show Calls Tryz.prog 11 #[.slice A b.length c] w fun e w' => e = .returned (.bool true) ∧ w' = w from by
      have := big_any A c w hn
      rwa [decide_eq_true hbig] at this)
    clear hbig hn h
    go_enter Tryz.func3, Tryz.ntmps3
    go_wp2_with fail
    refine HB.out.mono ?_
    rintro e w' ⟨rfl, hw⟩
    obtain rfl : w = w' := hw.symm
    go_wp2_with fail
    go_ret
    exact ⟨rfl, Below.refl _ _⟩
  have HB := Lib.hid (show Calls Tryz.prog 11 #[.slice A b.length c] w fun e w' => e = .returned (.bool false) ∧ w' = w from by
    have := big_any A c w hn
    rwa [decide_eq_false hbig] at this)
  have hn' : b.length ≤ 1048576 := by omega
  have HD := Lib.hid (fun V (hV : Below w.heap.size w V) => drawCode_any b A c V (h.below hV).full hn')
  have HDP := Lib.hid (fun V (hV : Below w.heap.size w V) => (show Calls Tryz.prog 16 #[.slice A b.length c] V (NewNats V (placesF b)) from by
    have := drawPlaces_any b A c V (h.below hV).full hn'
    have e : ((placesF b).map fun (n : Nat) => iv (n : Int)) = nv (placesF b) := by simp [nv, natI]
    unfold NewNats
    rw [placesF_len, ← e]
    exact this))
  have hpl := placesF_len b
  generalize hpf : placesF b = pf at HDP hpl
  have hok : codeOkI (codeD (newD b)) = true := codeD_ok _
  have hcb : CdB 1048576 (codeD (newD b)) := codeD_b _
  clear hpf hbig hn hn' h
  generalize codeD (newD b) = k at HD hok hcb
  have hr := right_of hok
  have hins := hr.ins
  have hprc := hr.procs
  have hel : (effN k).length ≤ 1048576 := by rw [effN_len]; omega
  have HR := Lib.hid hr
  have HEI := Lib.hid (fun z W (hz : CodeAt W W.heap.size z k) => (show Calls Tryz.prog 13 #[.agg #[.slice z.gA k.globals.length z.gc, .slice z.lA k.locks.length z.lc, .slice z.pA k.procs.length z.pc, .slice z.eA k.entry.length z.ec, .slice z.iA k.ins.length z.ic]] W (NewEff W (effN k)) from by
    have := effectsOf_i z k W hz hcb (by omega)
    rwa [codeE_yes hok] at this))
  have HES := Lib.hid (fun z W (hz : CodeAt W W.heap.size z k) => (show Calls Tryz.prog 14 #[.agg #[.slice z.gA k.globals.length z.gc, .slice z.lA k.locks.length z.lc, .slice z.pA k.procs.length z.pc, .slice z.eA k.entry.length z.ec, .slice z.iA k.ins.length z.ic]] W (NewEff W (effN k)) from by
    have := effectsOf_s z k W hz hcb (by omega)
    rwa [codeE_yes hok] at this))
  have HF0 := Lib.hid (fun z A c (p : Nat) (hp : p < k.procs.length) W (hz : CodeAt W W.heap.size z k) (ht : Rd W W.heap.size A (effCells (effN k))) => (show Calls Tryz.prog 17 #[.agg #[.slice z.gA k.globals.length z.gc, .slice z.lA k.locks.length z.lc, .slice z.pA k.procs.length z.pc, .slice z.eA k.entry.length z.ec, .slice z.iA k.ins.length z.ic], .slice A (effN k).length c, .int .i64 (p : Int), .int .i64 0] W (NewNats W (flowN k (effN k) p 0)) from by
    have := fromEntry_i z k A c (effN k) (p : Int) 0 W hz hcb (by omega) ht hel
    rwa [fromE_zero hok hp] at this))
  have HFH := Lib.hid (fun z A c (p : Nat) (hp : p < k.procs.length) (q : Nat) (hq : q < 64) W (hz : CodeAt W W.heap.size z k) (ht : Rd W W.heap.size A (effCells (effN k))) => (show Calls Tryz.prog 17 #[.agg #[.slice z.gA k.globals.length z.gc, .slice z.lA k.locks.length z.lc, .slice z.pA k.procs.length z.pc, .slice z.eA k.entry.length z.ec, .slice z.iA k.ins.length z.ic], .slice A (effN k).length c, .int .i64 (p : Int), .int .i64 (q : Int)] W (NewNats W (flowN k (effN k) p q)) from by
    have := fromEntry_i z k A c (effN k) (p : Int) (q : Int) W hz hcb (by omega) ht hel
    rwa [fromE_yes hok hp hq] at this))
  have HMI := Lib.hid (fun z A c (a q : Nat) W (hz : CodeAt W W.heap.size z k) (ht : Rd W W.heap.size A (effCells (effN k))) => (show Calls Tryz.prog 20 #[.agg #[.slice z.gA k.globals.length z.gc, .slice z.lA k.locks.length z.lc, .slice z.pA k.procs.length z.pc, .slice z.eA k.entry.length z.ec, .slice z.iA k.ins.length z.ic], .slice A (effN k).length c, .int .i64 (a : Int), .int .i64 (q : Int)] W (fun e w' => e = .returned (.int .i64 (movedA k (effN k) (a : Int) (q : Int))) ∧ Below W.heap.size W w') from by
    have := moved_i z k A c (effN k) (a : Int) (q : Int) W hz hcb (by omega) ht hel
    exact this))
  have HMS := Lib.hid (fun z A c (a q : Nat) W (hz : CodeAt W W.heap.size z k) (ht : Rd W W.heap.size A (effCells (effN k))) => (show Calls Tryz.prog 21 #[.agg #[.slice z.gA k.globals.length z.gc, .slice z.lA k.locks.length z.lc, .slice z.pA k.procs.length z.pc, .slice z.eA k.entry.length z.ec, .slice z.iA k.ins.length z.ic], .slice A (effN k).length c, .int .i64 (a : Int), .int .i64 (q : Int)] W (fun e w' => e = .returned (.int .i64 (movedA k (effN k) (a : Int) (q : Int))) ∧ Below W.heap.size W w') from by
    have := moved_s z k A c (effN k) (a : Int) (q : Int) W hz hcb (by omega) ht hel
    exact this))
  have HKO := Lib.hid (fun z (p : Nat) (hp : p < k.procs.length) W (hz : CodeAt W W.heap.size z k) => (show Calls Tryz.prog 24 #[.agg #[.slice z.gA k.globals.length z.gc, .slice z.lA k.locks.length z.lc, .slice z.pA k.procs.length z.pc, .slice z.eA k.entry.length z.ec, .slice z.iA k.ins.length z.ic], .int .i64 (p : Int)] W (fun e w' => e = .returned (.int .i64 ((keepN k p : Nat) : Int)) ∧ Below W.heap.size W w') from by
    have := keepOf_i z k (p : Int) W hz hcb (by omega)
    rwa [procV_yes hok hp] at this))
  have HEO := Lib.hid (fun z p (hp : p < k.procs.length) W (hz : CodeAt W W.heap.size z k) => endOf_s z k p W hz hcb (by omega) hok hp)
  clear hok hcb
  go_enter Tryz.func3, Tryz.ntmps3
  go_wp2_with fail
  refine HB.out.mono ?_
  rintro e w' ⟨rfl, hw⟩
  obtain rfl : w = w' := hw.symm
  go_wp2_with fail
  refine (HD.out _ (Below.refl _ _)).mono ?_
  rintro e w1 ⟨v, rfl, hk1, hb1⟩
  have hk1' := (hk1.sub (Nat.le_refl _) high_low).full
  go_wp2_with fail
  have hbx1 := codeBox w1 v k
  generalize w1.alloc (.cells #[.slice v.gA k.globals.length v.gc, .slice v.lA k.locks.length v.lc, .slice v.pA k.procs.length v.pc, .slice v.eA k.entry.length v.ec, .slice v.iA k.ins.length v.ic] 28) = W1 at hbx1 ⊢
  have hlow1 := below_trans' hb1 hbx1.1
  have hkv := kAt_of hbx1
  have hck := (hk1'.below hbx1.1).full
  clear hk1 hk1' hb1 hbx1
  generalize w1.heap.size = gk at hkv ⊢
  refine (HD.out W1 hlow1).mono ?_
  rintro e w2 ⟨u, rfl, hk2, hb2⟩
  have hk2' := (hk2.sub (Nat.le_refl _) high_low).full
  obtain ⟨k0, k1, k2, k3, k4⟩ := hkv.to hb2
  have hgk := World.block_lt_of_cell? _ _ k0
  have hgn : ¬ gk = w2.heap.size := Nat.ne_of_lt hgk
  go_wp2_with fail
  clear k0 k1 k2 k3 k4 hgk hgn
  have hbx2 := codeBox w2 u k
  generalize w2.alloc (.cells #[.slice u.gA k.globals.length u.gc, .slice u.lA k.locks.length u.lc, .slice u.pA k.procs.length u.pc, .slice u.eA k.entry.length u.ec, .slice u.iA k.ins.length u.ic] 28) = W2 at hbx2 ⊢
  have hb12 := below_trans' hb2 hbx2.1
  have hlb : LB w k gk w2.heap.size v u W2 := ⟨below_trans' hlow1 hb12, hkv.to hb12, kAt_of hbx2, (hck.below hb12).full, (hk2'.below hbx2.1).full⟩
  clear hk2 hk2' hb2 hbx2 hb12 hlow1 hkv hck HB HD
  generalize w2.heap.size = gs at hlb ⊢
  have HLB := Lib.hid hlb
  clear hlb
  refine (HEI.out v _ HLB.out.ck).mono ?_
  rintro e w5 ⟨A5, c5, rfl, ho5, hb5⟩
  have HL5 := Lib.hid (And.intro (HLB.out.to hb5) (own_rd ho5))
  clear ho5 hb5 HLB
  obtain ⟨s0, s1, s2, s3, s4⟩ := HL5.out.1.ks
  go_wp2_with fail
  refine (HES.out u _ HL5.out.1.cs).mono ?_
  rintro e w6 ⟨A6, c6, rfl, ho6, hb6⟩
  have HL6 := Lib.hid (show LE w k gk gs v u A5 A6 [] w6 from ⟨(HL5.out.1.to hb6).ls, (HL5.out.2.below hb6).full, own_rd ho6⟩)
  clear ho6 hb6 s0 s1 s2 s3 s4 HL5
  go_wp2_with fail
  refine (sameEffects_same A5 A6 c5 c6 (effN k) _ HL6.out.t HL6.out.t' hel).mono ?_
  rintro e w7 ⟨rfl, hb7⟩
  have HL7 := Lib.hid (HL6.out.to hb7)
  clear hb7 HL6
  go_wp2_with fail
  refine (HDP.out _ HL7.out.ls.lb.low).mono ?_
  rintro e w8 ⟨A8, c8, rfl, ho8, hb8⟩
  have HL8 := Lib.hid (HL7.out.to hb8)
  have hp0 : 0 < pf.length := by omega
  obtain ⟨ad8, rfl, _, n8⟩ := (own_rd ho8).nat (j := 0) hp0
  rw [add_0] at n8
  clear ho8 hb8 HL7 HDP hpl
  go_wp2_with fail
  have eq : ((pf[0] : Nat) : Int).tmod 64 = ((pf[0] % 64 : Nat) : Int) := (Int.ofNat_tmod _ 64).symm
  have eq2 : ((pf[0] : Nat) : Int) % (64 : Int) = ((pf[0] % 64 : Nat) : Int) := by omega
  have hq := Nat.mod_lt pf[0] (show 0 < 64 by decide)
  simp only [eq, eq2]
  clear eq eq2
  generalize pf[0] % 64 = q at hq ⊢
  have HQ := Lib.hid hq
  clear hq
  go_loopg [8, 9, 10, 11, 12] k.procs.length (fun l i y9 y10 y11 y12 wr => ∃ p : Nat, p ≤ k.procs.length ∧ l = k.procs.length - p ∧ i = .int .i64 p ∧ LE w k gk gs v u A5 A6 [] wr)
  case atStart => exact ⟨0, by omega, by omega, rfl, HL8.out⟩
  case round =>
    clear HL8
    obtain ⟨p, hp, rfl, rfl, hs4⟩ := hrel
    have HL4 := Lib.hid hs4
    clear hs4
    obtain ⟨s0, s1, s2, s3, s4⟩ := HL4.out.ls.lb.ks
    by_cases hlt : p < k.procs.length
    · have y1 : (p : Int) < (k.procs.length : Int) := by omega
      have y2 : (0 : Int) ≤ (p : Int) := by omega
      obtain ⟨k0, k1, k2, k3, k4⟩ := HL4.out.ls.lb.kk
      go_wp2_with fail
      refine (HF0.out v A5 c5 p hlt _ HL4.out.ls.lb.ck HL4.out.t).mono ?_
      rintro e w9 ⟨A9, c9, rfl, ho9, hb9⟩
      have HL9 := Lib.hid ((HL4.out.to hb9).add (own_rd ho9))
      clear ho9 hb9 k0 k1 k2 k3 k4 s0 s1 s2 s3 s4 HL4
      obtain ⟨k0, k1, k2, k3, k4⟩ := HL9.out.ls.lb.kk
      go_wp2_with fail
      refine (HFH.out v A5 c5 p hlt q HQ.out _ HL9.out.ls.lb.ck HL9.out.t).mono ?_
      rintro e w10 ⟨A10, c10, rfl, ho10, hb10⟩
      have HL10 := Lib.hid ((HL9.out.to hb10).add (own_rd ho10))
      clear ho10 hb10 k0 k1 k2 k3 k4 HL9
      obtain ⟨s0, s1, s2, s3, s4⟩ := HL10.out.ls.lb.ks
      go_wp2_with fail
      refine (HEO.out u p hlt _ HL10.out.ls.lb.cs).mono ?_
      rintro e w11 ⟨rfl, hb11⟩
      have HL11 := Lib.hid (HL10.out.to hb11)
      clear hb11 s0 s1 s2 s3 s4 HL10
      have HWI := Lib.hid (fun a h1 h2 => flow_within HR.out (held := q) (a := a) hlt h1 h2)
      have HGE := Lib.hid (fun h => flow_gen HR.out hlt h)
      have HWM := Lib.hid (fun h => flow_more HR.out hlt HQ.out h)
      have HGL := Lib.hid (gen_lt HR.out p)
      have hl0 : (flowN k (effN k) p 0).length = k.ins.length := flowN_len HR.out hlt
      have hlh : (flowN k (effN k) p q).length = k.ins.length := flowN_len HR.out hlt
      have hfi := fin_lt HR.out hlt
      generalize flowN k (effN k) p 0 = n0 at HL11 HWI HGE hl0 ⊢
      generalize flowN k (effN k) p q = nh at HL11 HWI HWM hlh ⊢
      have HL0 := Lib.hid hl0
      have HLH := Lib.hid hlh
      have e1 : ((n0.length : Int) != (k.ins.length : Int)) = false := by rw [hl0]; simp
      have e2 : ((nh.length : Int) != (k.ins.length : Int)) = false := by rw [hlh]; simp
      clear hl0 hlh
      obtain ⟨s0, s1, s2, s3, s4⟩ := HL11.out.ls.lb.ks
      go_wp2_with fail
      clear s0 s1 s2 s3 s4 e1 e2
      go_loopg [12] k.ins.length (fun l i wr => ∃ a : Nat, a ≤ k.ins.length ∧ l = k.ins.length - a ∧ i = .int .i64 a ∧ LE w k gk gs v u A5 A6 [(A10, nh), (A9, n0)] wr)
      case atStart => exact ⟨0, by omega, by omega, rfl, HL11.out⟩
      case round =>
        clear HL11
        obtain ⟨a, ha, rfl, rfl, hs6⟩ := hrel
        have HL6 := Lib.hid hs6
        clear hs6
        obtain ⟨s0, s1, s2, s3, s4⟩ := HL6.out.ls.lb.ks
        by_cases hal : a < k.ins.length
        · have ha1 : a < n0.length := by rw [HL0.out]; exact hal
          have ha2 : a < nh.length := by rw [HLH.out]; exact hal
          have z0 : (0 : Int) ≤ (a : Int) := by omega
          have z1 : (a : Int) < (n0.length : Int) := by omega
          have z2 : (a : Int) < (nh.length : Int) := by omega
          have z3 : (a : Int) < (k.ins.length : Int) := by omega
          obtain ⟨ad9, rfl⟩ := HL6.out.ls.some_ (A := A9) (xs := n0) (by simp) (by omega)
          obtain ⟨ad10, rfl⟩ := HL6.out.ls.some_ (A := A10) (xs := nh) (by simp) (by omega)
          have e3 : (movedA k (effN k) (a : Int) (q : Int) != movedA k (effN k) (a : Int) (q : Int)) = false := by simp
          go_wp2_with fail
          clear s0 s1 s2 s3 s4
          refine wp_region_held_drew (S := fun w' => LE w k gk gs v u A5 A6 [(some ad10, nh), (some ad9, n0)] w') (by kernel_rfl) (HL6.out.drew) (fun hHeld => ?_)
          first | refine hs_ 0 ?_ | (refine hr_ 0 ?_ ?_ ?_; rotate_left; (intro W hW; go_simp; try with_reducible rfl))
          first | refine hs_ 1 ?_ | (refine hr_ 1 ?_ ?_ ?_; rotate_left; (intro W hW; go_simp; try with_reducible rfl))
          first | refine hs_ 2 ?_ | (refine hr_ 2 ?_ ?_ ?_; rotate_left; (intro W hW; go_simp; try with_reducible rfl))
          first | refine hs_ 3 ?_ | (refine hr_ 3 ?_ ?_ ?_; rotate_left; (intro W hW; have n1 := hW.ls.at_ (ad := ad9) (by simp) ha1; have n2 := hW.ls.at_ (ad := ad10) (by simp) ha2; go_simp; try with_reducible rfl))
          first | refine hs_ 4 ?_ | (refine hr_ 4 ?_ ?_ ?_; rotate_left; (intro W hW; go_simp; try with_reducible rfl))
          first | refine hs_ 5 ?_ | (refine hr_ 5 ?_ ?_ ?_; rotate_left; (intro W hW; go_simp; try with_reducible rfl))
          first | refine hs_ 6 ?_ | (refine hr_ 6 ?_ ?_ ?_; rotate_left; (intro W hW; go_simp; try with_reducible rfl))
          first | refine hs_ 7 ?_ | (refine hr_ 7 ?_ ?_ ?_; rotate_left; (intro W hW; have n1 := hW.ls.at_ (ad := ad9) (by simp) ha1; have n2 := hW.ls.at_ (ad := ad10) (by simp) ha2; go_simp; try with_reducible rfl))
          refine ho_ 8 fun K hK => ?_
          go_simp
          refine (within_i (n0[a] : Int) (nh[a] : Int) _).mono ?_
          rintro e wq1 ⟨rfl, rfl⟩
          rw [HWI.out a ha1 ha2]
          refine hk_ hK (hHeld) fun hHeld => ?_
          clear hK K
          first | refine hs_ 9 ?_ | (refine hr_ 9 ?_ ?_ ?_; rotate_left; (intro W hW; go_simp; try with_reducible rfl))
          first | refine hs_ 10 ?_ | (refine hr_ 10 ?_ ?_ ?_; rotate_left; (intro W hW; go_simp; try with_reducible rfl))
          first | refine hs_ 11 ?_ | (refine hr_ 11 ?_ ?_ ?_; rotate_left; (intro W hW; obtain ⟨k0q, k1q, k2q, k3q, k4q⟩ := hW.ls.lb.kk; go_simp; try with_reducible rfl))
          first | refine hs_ 12 ?_ | (refine hr_ 12 ?_ ?_ ?_; rotate_left; (intro W hW; go_simp; try with_reducible rfl))
          first | refine hs_ 13 ?_ | (refine hr_ 13 ?_ ?_ ?_; rotate_left; (intro W hW; go_simp; try with_reducible rfl))
          first | refine hs_ 14 ?_ | (refine hr_ 14 ?_ ?_ ?_; rotate_left; (intro W hW; go_simp; try with_reducible rfl))
          first | refine hs_ 16 ?_ | (refine hr_ 16 ?_ ?_ ?_; rotate_left; (intro W hW; obtain ⟨s0q, s1q, s2q, s3q, s4q⟩ := hW.ls.lb.ks; go_simp; try with_reducible rfl))
          first | refine hs_ 17 ?_ | (refine hr_ 17 ?_ ?_ ?_; rotate_left; (intro W hW; go_simp; try with_reducible rfl))
          first | refine hs_ 18 ?_ | (refine hr_ 18 ?_ ?_ ?_; rotate_left; (intro W hW; go_simp; try with_reducible rfl))
          first | refine hs_ 19 ?_ | (refine hr_ 19 ?_ ?_ ?_; rotate_left; (intro W hW; go_simp; try with_reducible rfl))
          refine ho_ 15 fun K hK => ?_
          go_simp
          refine (HMI.out v A5 c5 a q _ hHeld.ls.lb.ck hHeld.t).mono ?_
          rintro e wq2 ⟨rfl, hb2⟩
          replace hHeld := hHeld.to hb2
          clear hb2
          refine hk_ hK (hHeld) fun hHeld => ?_
          clear hK K
          refine ho_ 20 fun K hK => ?_
          go_simp
          refine (HMS.out u A6 c6 a q _ hHeld.ls.lb.cs hHeld.t').mono ?_
          rintro e wq3 ⟨rfl, hb3⟩
          replace hHeld := hHeld.to hb3
          clear hb3
          refine hk_ hK (hHeld) fun hHeld => ?_
          clear hK K
          first | refine hs_ 21 ?_ | (refine hr_ 21 ?_ ?_ ?_; rotate_left; (intro W hW; go_simp; try with_reducible rfl))
          first | refine hs_ 22 ?_ | (refine hr_ 22 ?_ ?_ ?_; rotate_left; (intro W hW; go_simp; try with_reducible rfl))
          refine wpAnyH_done (by kernel_rfl) ?_ _
          have HLS9 := Lib.hid hHeld
          clear hHeld
          go_wp2_with fail
          go_roundg (k.ins.length - (a + 1))
          case measure => omega
          case rel => exact ⟨a + 1, by omega, rfl, by go_num, HLS9.out⟩
        · obtain rfl : a = k.ins.length := by omega
          have hf1 : fin k p - 1 < n0.length := by rw [HL0.out]; exact hfi
          have hf2 : fin k p - 1 < nh.length := by rw [HLH.out]; exact hfi
          have z0 : (0 : Int) ≤ ((fin k p - 1 : Nat) : Int) := by omega
          have z1 : ((fin k p - 1 : Nat) : Int) < (n0.length : Int) := by omega
          have z2 : ((fin k p - 1 : Nat) : Int) < (nh.length : Int) := by omega
          have z4 : (p : Int) < ((effN k).length : Int) := by rw [effN_len]; omega
          obtain ⟨ad9, rfl⟩ := HL6.out.ls.some_ (A := A9) (xs := n0) (by simp) (by omega)
          obtain ⟨ad10, rfl⟩ := HL6.out.ls.some_ (A := A10) (xs := nh) (by simp) (by omega)
          obtain ⟨ad6, rfl⟩ := HL6.out.some_ hlt
          have HGE := Lib.hid (HGE.out hf1)
          have HWM := Lib.hid (HWM.out hf2)
          have e3 : (((gt (genN k) p : Nat) : Int) != ((gt (genN k) p : Nat) : Int)) = false := by simp
          have e4 : (((keepN k p : Nat) : Int) != ((keepN k p : Nat) : Int)) = false := by simp
          go_wp2_with fail
          clear s0 s1 s2 s3 s4
          refine wp_region_held_drew (S := fun w' => LE w k gk gs v u A5 (some ad6) [(some ad10, nh), (some ad9, n0)] w') (by kernel_rfl) (HL6.out.drew) (fun hHeld => ?_)
          first | refine hs_ 0 ?_ | (refine hr_ 0 ?_ ?_ ?_; rotate_left; (intro W hW; go_simp; try with_reducible rfl))
          first | refine hs_ 1 ?_ | (refine hr_ 1 ?_ ?_ ?_; rotate_left; (intro W hW; go_simp; try with_reducible rfl))
          first | refine hs_ 2 ?_ | (refine hr_ 2 ?_ ?_ ?_; rotate_left; (intro W hW; go_simp; try with_reducible rfl))
          first | refine hs_ 3 ?_ | (refine hr_ 3 ?_ ?_ ?_; rotate_left; (intro W hW; have n1 := hW.ls.at_ (ad := ad9) (by simp) hf1; rw [HGE.out] at n1; have n2 := hW.ls.at_ (ad := ad10) (by simp) hf2; obtain ⟨r0, r1⟩ := hW.row hlt; go_simp; try with_reducible rfl))
          first | refine hs_ 4 ?_ | (refine hr_ 4 ?_ ?_ ?_; rotate_left; (intro W hW; go_simp; try with_reducible rfl))
          first | refine hs_ 5 ?_ | (refine hr_ 5 ?_ ?_ ?_; rotate_left; (intro W hW; go_simp; try with_reducible rfl))
          first | refine hs_ 6 ?_ | (refine hr_ 6 ?_ ?_ ?_; rotate_left; (intro W hW; go_simp; try with_reducible rfl))
          first | refine hs_ 7 ?_ | (refine hr_ 7 ?_ ?_ ?_; rotate_left; (intro W hW; go_simp; try with_reducible rfl))
          first | refine hs_ 8 ?_ | (refine hr_ 8 ?_ ?_ ?_; rotate_left; (intro W hW; have n1 := hW.ls.at_ (ad := ad9) (by simp) hf1; rw [HGE.out] at n1; have n2 := hW.ls.at_ (ad := ad10) (by simp) hf2; obtain ⟨r0, r1⟩ := hW.row hlt; go_simp; try with_reducible rfl))
          first | refine hs_ 9 ?_ | (refine hr_ 9 ?_ ?_ ?_; rotate_left; (intro W hW; go_simp; try with_reducible rfl))
          first | refine hs_ 10 ?_ | (refine hr_ 10 ?_ ?_ ?_; rotate_left; (intro W hW; go_simp; try with_reducible rfl))
          first | refine hs_ 11 ?_ | (refine hr_ 11 ?_ ?_ ?_; rotate_left; (intro W hW; go_simp; try with_reducible rfl))
          first | refine hs_ 12 ?_ | (refine hr_ 12 ?_ ?_ ?_; rotate_left; (intro W hW; go_simp; try with_reducible rfl))
          first | refine hs_ 13 ?_ | (refine hr_ 13 ?_ ?_ ?_; rotate_left; (intro W hW; go_simp; try with_reducible rfl))
          first | refine hs_ 14 ?_ | (refine hr_ 14 ?_ ?_ ?_; rotate_left; (intro W hW; go_simp; try with_reducible rfl))
          first | refine hs_ 15 ?_ | (refine hr_ 15 ?_ ?_ ?_; rotate_left; (intro W hW; go_simp; try with_reducible rfl))
          first | refine hs_ 16 ?_ | (refine hr_ 16 ?_ ?_ ?_; rotate_left; (intro W hW; have n1 := hW.ls.at_ (ad := ad9) (by simp) hf1; rw [HGE.out] at n1; have n2 := hW.ls.at_ (ad := ad10) (by simp) hf2; obtain ⟨r0, r1⟩ := hW.row hlt; go_simp; try with_reducible rfl))
          first | refine hs_ 18 ?_ | (refine hr_ 18 ?_ ?_ ?_; rotate_left; (intro W hW; go_simp; try with_reducible rfl))
          first | refine hs_ 19 ?_ | (refine hr_ 19 ?_ ?_ ?_; rotate_left; (intro W hW; go_simp; try with_reducible rfl))
          first | refine hs_ 20 ?_ | (refine hr_ 20 ?_ ?_ ?_; rotate_left; (intro W hW; go_simp; try with_reducible rfl))
          first | refine hs_ 21 ?_ | (refine hr_ 21 ?_ ?_ ?_; rotate_left; (intro W hW; go_simp; try with_reducible rfl))
          first | refine hs_ 22 ?_ | (refine hr_ 22 ?_ ?_ ?_; rotate_left; (intro W hW; have n1 := hW.ls.at_ (ad := ad9) (by simp) hf1; rw [HGE.out] at n1; have n2 := hW.ls.at_ (ad := ad10) (by simp) hf2; obtain ⟨r0, r1⟩ := hW.row hlt; go_simp; try with_reducible rfl))
          first | refine hs_ 24 ?_ | (refine hr_ 24 ?_ ?_ ?_; rotate_left; (intro W hW; go_simp; try with_reducible rfl))
          first | refine hs_ 25 ?_ | (refine hr_ 25 ?_ ?_ ?_; rotate_left; (intro W hW; go_simp; try with_reducible rfl))
          first | refine hs_ 26 ?_ | (refine hr_ 26 ?_ ?_ ?_; rotate_left; (intro W hW; go_simp; try with_reducible rfl))
          first | refine hs_ 27 ?_ | (refine hr_ 27 ?_ ?_ ?_; rotate_left; (intro W hW; have n1 := hW.ls.at_ (ad := ad9) (by simp) hf1; rw [HGE.out] at n1; have n2 := hW.ls.at_ (ad := ad10) (by simp) hf2; obtain ⟨r0, r1⟩ := hW.row hlt; go_simp; try with_reducible rfl))
          refine ho_ 17 fun K hK => ?_
          go_simp
          refine (both_i (q : Int) ((keepN k p : Nat) : Int) _).mono ?_
          rintro e wq4 ⟨rfl, rfl⟩
          rw [both_nat HQ.out (keepN_lt k p)]
          refine hk_ hK (hHeld) fun hHeld => ?_
          clear hK K
          refine ho_ 23 fun K hK => ?_
          go_simp
          refine (either_i ((q &&& keepN k p : Nat) : Int) ((gt (genN k) p : Nat) : Int) _).mono ?_
          rintro e wq5 ⟨rfl, rfl⟩
          rw [either_nat (Nat.lt_of_le_of_lt Nat.and_le_left HQ.out) HGL.out]
          refine hk_ hK (hHeld) fun hHeld => ?_
          clear hK K
          refine ho_ 28 fun K hK => ?_
          go_simp
          refine (within_i (((q &&& keepN k p) ||| gt (genN k) p : Nat) : Int) (nh[fin k p - 1] : Int) _).mono ?_
          rintro e wq6 ⟨rfl, rfl⟩
          rw [HWM.out]
          refine hk_ hK (hHeld) fun hHeld => ?_
          clear hK K
          first | refine hs_ 29 ?_ | (refine hr_ 29 ?_ ?_ ?_; rotate_left; (intro W hW; go_simp; try with_reducible rfl))
          first | refine hs_ 30 ?_ | (refine hr_ 30 ?_ ?_ ?_; rotate_left; (intro W hW; go_simp; try with_reducible rfl))
          first | refine hs_ 31 ?_ | (refine hr_ 31 ?_ ?_ ?_; rotate_left; (intro W hW; go_simp; try with_reducible rfl))
          first | refine hs_ 32 ?_ | (refine hr_ 32 ?_ ?_ ?_; rotate_left; (intro W hW; obtain ⟨k0q, k1q, k2q, k3q, k4q⟩ := hW.ls.lb.kk; go_simp; try with_reducible rfl))
          first | refine hs_ 33 ?_ | (refine hr_ 33 ?_ ?_ ?_; rotate_left; (intro W hW; go_simp; try with_reducible rfl))
          first | refine hs_ 35 ?_ | (refine hr_ 35 ?_ ?_ ?_; rotate_left; (intro W hW; go_simp; try with_reducible rfl))
          first | refine hs_ 36 ?_ | (refine hr_ 36 ?_ ?_ ?_; rotate_left; (intro W hW; go_simp; try with_reducible rfl))
          first | refine hs_ 37 ?_ | (refine hr_ 37 ?_ ?_ ?_; rotate_left; (intro W hW; go_simp; try with_reducible rfl))
          first | refine hs_ 38 ?_ | (refine hr_ 38 ?_ ?_ ?_; rotate_left; (intro W hW; go_simp; try with_reducible rfl))
          first | refine hs_ 39 ?_ | (refine hr_ 39 ?_ ?_ ?_; rotate_left; (intro W hW; have n1 := hW.ls.at_ (ad := ad9) (by simp) hf1; rw [HGE.out] at n1; have n2 := hW.ls.at_ (ad := ad10) (by simp) hf2; obtain ⟨r0, r1⟩ := hW.row hlt; go_simp; try with_reducible rfl))
          refine ho_ 34 fun K hK => ?_
          go_simp
          refine (HKO.out v p hlt _ hHeld.ls.lb.ck).mono ?_
          rintro e wq7 ⟨rfl, hb7⟩
          replace hHeld := hHeld.to hb7
          clear hb7
          refine hk_ hK (hHeld) fun hHeld => ?_
          clear hK K
          first | refine hs_ 40 ?_ | (refine hr_ 40 ?_ ?_ ?_; rotate_left; (intro W hW; go_simp; try with_reducible rfl))
          first | refine hs_ 41 ?_ | (refine hr_ 41 ?_ ?_ ?_; rotate_left; (intro W hW; go_simp; try with_reducible rfl))
          refine wpAnyH_done (by kernel_rfl) ?_ _
          have HLS9 := Lib.hid hHeld
          clear hHeld
          go_wp2_with fail
          go_roundg (k.procs.length - (p + 1))
          case measure => omega
          case rel => exact ⟨p + 1, by omega, rfl, by go_num, HLS9.out.rest.rest⟩
    · obtain rfl : p = k.procs.length := by omega
      go_wp2_with fail
      go_ret
      exact ⟨rfl, HL4.out.ls.lb.low⟩

set_option maxRecDepth 100000 in
theorem lifted (os : Os) (started : os.Started) (H : Type) (enc : TypeId × Value → H) :
    ReturnsInHanded {} Tryz.checked os 3 .any (Rows.fnEffectsSpec.pre6 enc Tryz.prog Tryz.f3 Rows.fnEffectsRow.domain false) (Rows.fnEffectsSpec.post enc Tryz.prog Tryz.f3 false true false false) := by
  refine returnsInHanded_of_change (C := Tryz.checked) own started (by kernel_rfl) Tryz.func3
    (ChangeSpec.witness6 (enc := enc) (C := Tryz.checked) false ⟨#[], #[.slice none 0 0], []⟩ 8 (by kernel_rfl) (by kernel_rfl) (by kernel_rfl) (by kernel_rfl)) ?_
  intro W base args ds gs before hval0 hW hcnd _
  have hval : ∀ (j : Nat) t v, Tryz.f3.params[j]? = some t → args[j]? = some v → Value.okWide Tryz.prog W .any base t v := hval0
  have hW' := hW
  obtain ⟨p, q, hA0, hV, rfl, hfz, hnd⟩ := hW
  have hA : DataW.TrodAll enc Tryz.prog W 0 (fun _ => true) true Tryz.f3.params.toList args.toList ds p := hA0
  rw [Tryz.params3] at hA hval
  obtain ⟨v0, vs0, d0, ds0, p0, q0, hargs, rfl, rfl, h0, r0⟩ := trodAll_cons hA
  obtain ⟨rfl, rfl, rfl⟩ := trodAll_nil r0
  obtain rfl : args = #[v0] := by cases args; simp_all
  have key : ∃ (A : Option Addr) (c : Nat) (zs : List UInt8), v0 = .slice A zs.length c ∧ Rd W W.heap.size A (bytesV zs) ∧ zs.length ≤ 9223372036854775807 := by
    obtain ⟨fuel, h0⟩ := h0
    rw [slice_cells Tryz.underlying22 (hval 0 22 v0 rfl rfl)] at h0
    obtain ⟨A, c, zs, e, hr, hn⟩ := rd_bytes h0
    injection e with e
    exact ⟨A, c, zs, e, hr, hn⟩
  obtain ⟨A, c, zs, rfl, hr, hn⟩ := key
  refine (walk zs A c W hr hn).mono fun e W' ⟨he, hb⟩ => ?_
  subst he
  exact ⟨_, rfl, post_of_law laidOut rfl Tryz.underlying4 rfl (by kernel_rfl) (fun ds hds => by
    match ds, hds with
    | [d], _ => exact ⟨rfl, rfl, rfl⟩) hW' hb⟩

theorem over : Rows.fnEffectsRow.holds Tryz.pinned (OpenSpec.ofChange Rows.fnEffectsSpec) :=
  OpenClaim.holds_of_wide 3 Tryz.f3 rfl rfl rfl rfl rfl rfl rfl ⟨rfl, rfl, rfl, rfl, rfl⟩ rfl rfl rfl rfl rfl (by kernel_rfl) Tryz.func3 (by kernel_rfl)
    (of_decide_eq_true (by kernel_rfl)) (by unfold Func.isWrapper; first | (rw [if_pos (by decide +kernel)]; kernel_rfl) | (rw [if_neg (by decide +kernel)]; exact ⟨rfl, rfl⟩))
    (fun os started H enc _ => lifted os started H enc)

theorem proved : Rows.FnEffectsSaid := over
#print axioms proved
end Go.Proofs.YtkgoajnnkimkaaaGreat.fnEffects
