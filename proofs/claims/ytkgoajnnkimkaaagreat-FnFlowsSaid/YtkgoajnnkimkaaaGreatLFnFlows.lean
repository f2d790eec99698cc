/- In drawn code what comes next has it ahead, what one comes to goes on within the procedure, and all but the end has something next: the law FnFlows returns true. No condition beyond the given statement's own. -/
import Derived.Test.YtkgoajnnkimkaaaGreatMFnFlows
import Derived.Test.YtkgoajnnkimkaaaGreatH26
set_option linter.unusedSimpArgs false
set_option linter.unusedVariables false
namespace Go.Proofs.YtkgoajnnkimkaaaGreat.fnFlows
open Go.ChangeShapes Go.WideShapes Go.ChangeAt Go.RowKit

set_option maxRecDepth 100000 in
set_option maxHeartbeats 16000000 in
theorem walk (b : List UInt8) (A : Option Addr) (c : Nat) (w : World) (h : Rd w w.heap.size A (bytesV b)) (hn : b.length ≤ 9223372036854775807) :
    Calls Tryz.prog 6 #[.slice A b.length c] w fun e w' => e = .returned (.bool true) ∧ Below w.heap.size w w' := by
  by_cases hbig : 1048576 < b.length
  · have HB := Lib.hid (show Calls Tryz.prog 11 #[.slice A b.length c] w fun e w' => e = .returned (.bool true) ∧ w' = w from by
      have := big_any A c w hn
      rwa [decide_eq_true hbig] at this)
    clear hbig hn h
    go_enter Tryz.func6, Tryz.ntmps6
    go_wp2_with fail
    refine HB.out.mono ?_
    rintro e w' ⟨rfl, hw⟩
    obtain rfl : w = w' := hw.symm
    go_wp2_with fail
    go_ret
    exact ⟨rfl, Below.refl _ _⟩
  have HB := Lib.hid (show Calls Tryz.prog 11 #[.slice A b.length c] w fun e w' => e = .returned (.bool false) ∧ w' = w from by
    have := big_any A c w hn
    rwa [decide_eq_false hbig] at this)
  have hn' : b.length ≤ 1048576 := by omega
  have HD := Lib.hid (fun V (hV : Below w.heap.size w V) => drawCode_any b A c V (h.below hV).full hn')
  have HDP := Lib.hid (fun V (hV : Below w.heap.size w V) => (show Calls Tryz.prog 16 #[.slice A b.length c] V (NewNats V (placesF b)) from by
    have := drawPlaces_any b A c V (h.below hV).full hn'
    have e : ((placesF b).map fun (n : Nat) => iv (n : Int)) = nv (placesF b) := by simp [nv, natI]
    unfold NewNats
    rw [placesF_len, ← e]
    exact this))
  have hpl := placesF_len b
  generalize hpf : placesF b = pf at HDP hpl
  have hok : codeOkI (codeD (newD b)) = true := codeD_ok _
  have hcb : CdB 1048576 (codeD (newD b)) := codeD_b _
  clear hpf hbig hn hn' h
  generalize codeD (newD b) = k at HD hok hcb
  have hr := right_of hok
  have hins := hr.ins
  have hprc := hr.procs
  have HR := Lib.hid hr
  have HNX := Lib.hid (fun z a (ha : a < k.ins.length) W (hz : CodeAt W W.heap.size z k) => (show Calls Tryz.prog 47 #[.agg #[.slice z.gA k.globals.length z.gc, .slice z.lA k.locks.length z.lc, .slice z.pA k.procs.length z.pc, .slice z.eA k.entry.length z.ec, .slice z.iA k.ins.length z.ic], .int .i64 (a : Int)] W (NewNats W (nextL k a)) from by
    have := nextOf_i z k (a : Int) W hz hcb (by omega)
    rwa [atL_yes hok ha] at this))
  have HRE := Lib.hid (fun z a (ha : a < k.ins.length) W (hz : CodeAt W W.heap.size z k) => (show Calls Tryz.prog 48 #[.agg #[.slice z.gA k.globals.length z.gc, .slice z.lA k.locks.length z.lc, .slice z.pA k.procs.length z.pc, .slice z.eA k.entry.length z.ec, .slice z.iA k.ins.length z.ic], .int .i64 (a : Int)] W (NewNats W (listN k.ins.length (Reach (nextL k) a))) from by
    have := reachIn_i z k (a : Int) W hz hcb (by omega)
    rwa [atL_yes hok ha] at this))
  have HRS := Lib.hid (fun z a (ha : a < k.ins.length) W (hz : CodeAt W W.heap.size z k) => (show Calls Tryz.prog 52 #[.agg #[.slice z.gA k.globals.length z.gc, .slice z.lA k.locks.length z.lc, .slice z.pA k.procs.length z.pc, .slice z.eA k.entry.length z.ec, .slice z.iA k.ins.length z.ic], .int .i64 (a : Int)] W (NewNats W (listN k.ins.length (Reach (nextL k) a))) from by
    have := reachIn_s z k (a : Int) W hz hcb (by omega)
    rwa [atL_yes hok ha] at this))
  have HAH := Lib.hid (fun z a (ha : a < k.ins.length) W (hz : CodeAt W W.heap.size z k) => (show Calls Tryz.prog 49 #[.agg #[.slice z.gA k.globals.length z.gc, .slice z.lA k.locks.length z.lc, .slice z.pA k.procs.length z.pc, .slice z.eA k.entry.length z.ec, .slice z.iA k.ins.length z.ic], .int .i64 (a : Int)] W (NewNats W (listN k.ins.length (fun b => a ∈ nextL k b))) from by
    have := aheadOf_i z k (a : Int) W hz hcb (by omega)
    rwa [atL_yes hok ha] at this))
  have HIL := Lib.hid (fun z a (ha : a < k.ins.length) W (hz : CodeAt W W.heap.size z k) => (show Calls Tryz.prog 51 #[.agg #[.slice z.gA k.globals.length z.gc, .slice z.lA k.locks.length z.lc, .slice z.pA k.procs.length z.pc, .slice z.eA k.entry.length z.ec, .slice z.iA k.ins.length z.ic], .int .i64 (a : Int)] W (fun e w' => e = .returned (.bool (decide (a ∈ listN k.ins.length (Reach (nextL k) a)))) ∧ Below W.heap.size W w') from by
    have := inLoop_i z k (a : Int) W hz hcb (by omega)
    rw [atB_yes hok ha] at this
    have e : mkd (markL k.ins.length (Reach (nextL k) a)) a = decide (a ∈ listN k.ins.length (Reach (nextL k) a)) := by
      rw [Bool.eq_iff_iff, mkd_markL_true, decide_eq_true_eq, mem_listN]
    rwa [e] at this))
  have HLI := Lib.hid (fun z p (hp : p < k.procs.length) W (hz : CodeAt W W.heap.size z k) => (show Calls Tryz.prog 53 #[.agg #[.slice z.gA k.globals.length z.gc, .slice z.lA k.locks.length z.lc, .slice z.pA k.procs.length z.pc, .slice z.eA k.entry.length z.ec, .slice z.iA k.ins.length z.ic], .int .i64 (p : Int)] W (NewNats W (listN k.ins.length (LiveP k p))) from by
    have := liveIn_i z k (p : Int) W hz hcb (by omega)
    rwa [procL_yes hok hp] at this))
  have HLS := Lib.hid (fun z p (hp : p < k.procs.length) W (hz : CodeAt W W.heap.size z k) => (show Calls Tryz.prog 54 #[.agg #[.slice z.gA k.globals.length z.gc, .slice z.lA k.locks.length z.lc, .slice z.pA k.procs.length z.pc, .slice z.eA k.entry.length z.ec, .slice z.iA k.ins.length z.ic], .int .i64 (p : Int)] W (NewNats W (listN k.ins.length (LiveP k p))) from by
    have := liveIn_s z k (p : Int) W hz hcb (by omega)
    rwa [procL_yes hok hp] at this))
  have HPO := Lib.hid (fun z a (ha : a < k.ins.length) W (hz : CodeAt W W.heap.size z k) => procOf_s z k a W hz hcb (by omega) hok ha)
  have HLL := Lib.hid (fun (P : Nat → Prop) => (show (listN k.ins.length P).length ≤ 1099511627776 from Nat.le_trans (listN_len _ _) (by omega)))
  clear hok hcb
  go_enter Tryz.func6, Tryz.ntmps6
  go_wp2_with fail
  refine HB.out.mono ?_
  rintro e w' ⟨rfl, hw⟩
  obtain rfl : w = w' := hw.symm
  go_wp2_with fail
  refine (HD.out _ (Below.refl _ _)).mono ?_
  rintro e w1 ⟨v, rfl, hk1, hb1⟩
  have hk1' := (hk1.sub (Nat.le_refl _) high_low).full
  go_wp2_with fail
  have hbx1 := codeBox w1 v k
  generalize w1.alloc (.cells #[.slice v.gA k.globals.length v.gc, .slice v.lA k.locks.length v.lc, .slice v.pA k.procs.length v.pc, .slice v.eA k.entry.length v.ec, .slice v.iA k.ins.length v.ic] 28) = W1 at hbx1 ⊢
  have hlow1 := below_trans' hb1 hbx1.1
  have hkv := kAt_of hbx1
  have hck := (hk1'.below hbx1.1).full
  clear hk1 hk1' hb1 hbx1
  generalize w1.heap.size = gk at hkv ⊢
  refine (HD.out W1 hlow1).mono ?_
  rintro e w2 ⟨u, rfl, hk2, hb2⟩
  have hk2' := (hk2.sub (Nat.le_refl _) high_low).full
  go_wp2_with fail
  have hbx2 := codeBox w2 u k
  generalize w2.alloc (.cells #[.slice u.gA k.globals.length u.gc, .slice u.lA k.locks.length u.lc, .slice u.pA k.procs.length u.pc, .slice u.eA k.entry.length u.ec, .slice u.iA k.ins.length u.ic] 28) = W2 at hbx2 ⊢
  have hb12 := below_trans' hb2 hbx2.1
  have hlb : LB w k gk w2.heap.size v u W2 := ⟨below_trans' hlow1 hb12, hkv.to hb12, kAt_of hbx2, (hck.below hb12).full, (hk2'.below hbx2.1).full⟩
  clear hk2 hk2' hb2 hbx2 hb12 hlow1 hkv hck HB HD
  generalize w2.heap.size = gs at hlb ⊢
  have HLB := Lib.hid hlb
  clear hlb
  go_loopg [5, 6, 7, 8] k.ins.length (fun l i nx re i2 wr => ∃ a : Nat, a ≤ k.ins.length ∧ l = k.ins.length - a ∧ i = .int .i64 a ∧ LB w k gk gs v u wr)
  case atStart => exact ⟨0, by omega, by omega, rfl, HLB.out⟩
  case round =>
    clear HLB
    obtain ⟨a, ha, rfl, rfl, hl⟩ := hrel
    have HL := Lib.hid hl
    clear hl
    obtain ⟨k0, k1, k2, k3, k4⟩ := HL.out.kk
    obtain ⟨s0, s1, s2, s3, s4⟩ := HL.out.ks
    by_cases hlt : a < k.ins.length
    · have y1 : (a : Int) < (k.ins.length : Int) := by omega
      have y2 : (0 : Int) ≤ (a : Int) := by omega
      go_wp2_with fail
      refine (HNX.out v a hlt _ HL.out.ck).mono ?_
      rintro e w2 ⟨A2, c2, rfl, ho2, hb2⟩
      have HL2 := Lib.hid ((HL.out.to hb2).ls.add (own_rd ho2))
      clear ho2 hb2 k0 k1 k2 k3 k4 s0 s1 s2 s3 s4 HL
      obtain ⟨k0, k1, k2, k3, k4⟩ := HL2.out.lb.kk
      obtain ⟨s0, s1, s2, s3, s4⟩ := HL2.out.lb.ks
      obtain ⟨ad, A', c', eA, hbl, i0, _⟩ := HL2.out.lb.cs.i.get hlt
      rw [eA] at s4
      rw [opN_eq hlt] at i0
      clear eA hbl
      obtain ⟨bb, e1, e2⟩ : ∃ bb : Bool, (((nextL k a).length : Int) == 0) = bb ∧ (opN k a == 9) = bb := ⟨decide (opN k a = 9), by rw [Bool.eq_iff_iff, decide_eq_true_eq, ← next_nil a]; simp, by rw [Bool.eq_iff_iff]; simp⟩
      have e3 : (bb != bb) = false := by simp
      go_wp2_with fail
      refine (HRE.out v a hlt _ HL2.out.lb.ck).mono ?_
      rintro e w3 ⟨A3, c3, rfl, ho3, hb3⟩
      have HLS3 := Lib.hid (show LS w k gk gs v u [(A2, nextL k a), (A3, listN k.ins.length (Reach (nextL k) a))] w3 from ⟨HL2.out.lb.to hb3, fun p hp => by
        rcases List.mem_cons.1 hp with rfl | hp
        · exact ((HL2.out.rd (A2, nextL k a) (by simp)).below hb3).full
        · rw [List.mem_singleton.1 hp]; exact own_rd ho3⟩)
      clear ho3 hb3 k0 k1 k2 k3 k4 s0 s1 s2 s3 s4 HL2 i0 e1 e2 e3
      go_wp2_with fail
      go_loopg [8] (nextL k a).length (fun l i wr => ∃ j : Nat, j ≤ (nextL k a).length ∧ l = (nextL k a).length - j ∧ i = .int .i64 j ∧ LS w k gk gs v u [(A2, nextL k a), (A3, listN k.ins.length (Reach (nextL k) a))] wr)
      case atStart => exact ⟨0, by omega, by omega, rfl, HLS3.out⟩
      case round =>
        clear HLS3
        obtain ⟨j, hj, rfl, rfl, hs4⟩ := hrel
        have HLS4 := Lib.hid hs4
        clear hs4
        by_cases hjl : j < (nextL k a).length
        · have z1 : (j : Int) < ((nextL k a).length : Int) := by omega
          have z2 : (0 : Int) ≤ (j : Int) := by omega
          obtain ⟨ad2, rfl⟩ := HLS4.out.some_ (A := A2) (xs := nextL k a) (by simp) (by omega)
          have hni := nextL_in HR.out hlt (List.getElem_mem hjl)
          have hnl := hni.1
          have hma : a ∈ listN k.ins.length (fun b => (nextL k a)[j] ∈ nextL k b) := mem_listN.2 ⟨hlt, List.getElem_mem hjl⟩
          have hmr : (nextL k a)[j] ∈ listN k.ins.length (Reach (nextL k) a) := mem_listN.2 ⟨hnl, Reach.one (List.getElem_mem hjl)⟩
          have hpe : (((procN k (nextL k a)[j] : Nat) : Int) != ((procN k a : Nat) : Int)) = false := by rw [hni.2]; simp
          have hn2 := nextL_len k a
          clear hni
          go_wp2_with fail
          refine wp_region_held_drew (S := fun w' => LS w k gk gs v u [(some ad2, nextL k a), (A3, listN k.ins.length (Reach (nextL k) a))] w') (by kernel_rfl) (HLS4.out.drew) (fun hHeld => ?_)
          first | refine hs_ 0 ?_ | (refine hr_ 0 ?_ ?_ ?_; rotate_left; (intro W hW; obtain ⟨k0q, k1q, k2q, k3q, k4q⟩ := hW.lb.kk; go_simp; try with_reducible rfl))
          first | refine hs_ 1 ?_ | (refine hr_ 1 ?_ ?_ ?_; rotate_left; (intro W hW; go_simp; try with_reducible rfl))
          first | refine hs_ 2 ?_ | (refine hr_ 2 ?_ ?_ ?_; rotate_left; (intro W hW; go_simp; try with_reducible rfl))
          first | refine hs_ 3 ?_ | (refine hr_ 3 ?_ ?_ ?_; rotate_left; (intro W hW; go_simp; try with_reducible rfl))
          first | refine hs_ 4 ?_ | (refine hr_ 4 ?_ ?_ ?_; rotate_left; (intro W hW; have nq := hW.at_ (ad := ad2) (by simp) hjl; go_simp; try with_reducible rfl))
          first | refine hs_ 6 ?_ | (refine hr_ 6 ?_ ?_ ?_; rotate_left; (intro W hW; go_simp; try with_reducible rfl))
          refine ho_ 5 fun K hK => ?_
          go_simp
          refine (HAH.out v (nextL k a)[j] hnl _ hHeld.lb.ck).mono ?_
          rintro e wq1 ⟨Aa, ca, rfl, ho1, hb1⟩
          have ra := own_rd ho1
          replace hHeld := hHeld.to hb1
          clear ho1 hb1
          refine hk_ hK (hHeld) fun hHeld => ?_
          clear hK K
          refine ho_ 7 fun K hK => ?_
          go_simp
          refine (hasInt_yes Aa ca _ a _ ra (HLL.out _) hma).mono ?_
          rintro e wq2 ⟨rfl, hb2⟩
          replace hHeld := hHeld.to hb2
          clear hb2
          clear ra
          refine hk_ hK (hHeld) fun hHeld => ?_
          clear hK K
          first | refine hs_ 8 ?_ | (refine hr_ 8 ?_ ?_ ?_; rotate_left; (intro W hW; go_simp; try with_reducible rfl))
          first | refine hs_ 9 ?_ | (refine hr_ 9 ?_ ?_ ?_; rotate_left; (intro W hW; go_simp; try with_reducible rfl))
          first | refine hs_ 10 ?_ | (refine hr_ 10 ?_ ?_ ?_; rotate_left; (intro W hW; go_simp; try with_reducible rfl))
          first | refine hs_ 11 ?_ | (refine hr_ 11 ?_ ?_ ?_; rotate_left; (intro W hW; go_simp; try with_reducible rfl))
          first | refine hs_ 12 ?_ | (refine hr_ 12 ?_ ?_ ?_; rotate_left; (intro W hW; go_simp; try with_reducible rfl))
          first | refine hs_ 13 ?_ | (refine hr_ 13 ?_ ?_ ?_; rotate_left; (intro W hW; go_simp; try with_reducible rfl))
          first | refine hs_ 14 ?_ | (refine hr_ 14 ?_ ?_ ?_; rotate_left; (intro W hW; have nq := hW.at_ (ad := ad2) (by simp) hjl; go_simp; try with_reducible rfl))
          refine ho_ 15 fun K hK => ?_
          go_simp
          refine (hasInt_yes A3 c3 _ (nextL k a)[j] _ (hHeld.rd (A3, listN k.ins.length (Reach (nextL k) a)) (by simp)) (HLL.out _) hmr).mono ?_
          rintro e wq3 ⟨rfl, hb3⟩
          replace hHeld := hHeld.to hb3
          clear hb3
          refine hk_ hK (hHeld) fun hHeld => ?_
          clear hK K
          first | refine hs_ 16 ?_ | (refine hr_ 16 ?_ ?_ ?_; rotate_left; (intro W hW; go_simp; try with_reducible rfl))
          first | refine hs_ 17 ?_ | (refine hr_ 17 ?_ ?_ ?_; rotate_left; (intro W hW; go_simp; try with_reducible rfl))
          first | refine hs_ 18 ?_ | (refine hr_ 18 ?_ ?_ ?_; rotate_left; (intro W hW; go_simp; try with_reducible rfl))
          first | refine hs_ 19 ?_ | (refine hr_ 19 ?_ ?_ ?_; rotate_left; (intro W hW; obtain ⟨s0q, s1q, s2q, s3q, s4q⟩ := hW.lb.ks; go_simp; try with_reducible rfl))
          first | refine hs_ 20 ?_ | (refine hr_ 20 ?_ ?_ ?_; rotate_left; (intro W hW; go_simp; try with_reducible rfl))
          first | refine hs_ 21 ?_ | (refine hr_ 21 ?_ ?_ ?_; rotate_left; (intro W hW; go_simp; try with_reducible rfl))
          first | refine hs_ 22 ?_ | (refine hr_ 22 ?_ ?_ ?_; rotate_left; (intro W hW; go_simp; try with_reducible rfl))
          first | refine hs_ 23 ?_ | (refine hr_ 23 ?_ ?_ ?_; rotate_left; (intro W hW; have nq := hW.at_ (ad := ad2) (by simp) hjl; go_simp; try with_reducible rfl))
          first | refine hs_ 25 ?_ | (refine hr_ 25 ?_ ?_ ?_; rotate_left; (intro W hW; obtain ⟨s0q, s1q, s2q, s3q, s4q⟩ := hW.lb.ks; go_simp; try with_reducible rfl))
          first | refine hs_ 26 ?_ | (refine hr_ 26 ?_ ?_ ?_; rotate_left; (intro W hW; go_simp; try with_reducible rfl))
          refine ho_ 24 fun K hK => ?_
          go_simp
          refine (HPO.out u (nextL k a)[j] hnl _ hHeld.lb.cs).mono ?_
          rintro e wq4 ⟨rfl, hb4⟩
          replace hHeld := hHeld.to hb4
          clear hb4
          refine hk_ hK (hHeld) fun hHeld => ?_
          clear hK K
          refine ho_ 27 fun K hK => ?_
          go_simp
          refine (HPO.out u a hlt _ hHeld.lb.cs).mono ?_
          rintro e wq5 ⟨rfl, hb5⟩
          replace hHeld := hHeld.to hb5
          clear hb5
          refine hk_ hK (hHeld) fun hHeld => ?_
          clear hK K
          first | refine hs_ 28 ?_ | (refine hr_ 28 ?_ ?_ ?_; rotate_left; (intro W hW; go_simp; try with_reducible rfl))
          first | refine hs_ 29 ?_ | (refine hr_ 29 ?_ ?_ ?_; rotate_left; (intro W hW; go_simp; try with_reducible rfl))
          refine wpAnyH_done (by kernel_rfl) ?_ _
          have HLS9 := Lib.hid hHeld
          clear hHeld
          go_wp2_with fail
          go_roundg ((nextL k a).length - (j + 1))
          case measure => omega
          case rel => exact ⟨j + 1, by omega, rfl, by go_num, HLS9.out⟩
        · obtain rfl : j = (nextL k a).length := by omega
          obtain ⟨k0, k1, k2, k3, k4⟩ := HLS4.out.lb.kk
          obtain ⟨s0, s1, s2, s3, s4⟩ := HLS4.out.lb.ks
          go_wp2_with fail
          refine (HIL.out v a hlt _ HLS4.out.lb.ck).mono ?_
          rintro e w5 ⟨rfl, hb5⟩
          have HLS5 := Lib.hid (HLS4.out.to hb5)
          clear hb5 k0 k1 k2 k3 k4 s0 s1 s2 s3 s4 HLS4
          obtain ⟨k0, k1, k2, k3, k4⟩ := HLS5.out.lb.kk
          obtain ⟨s0, s1, s2, s3, s4⟩ := HLS5.out.lb.ks
          generalize hbb : decide (a ∈ listN k.ins.length (Reach (nextL k) a)) = bb
          have HBB := Lib.hid hbb
          clear hbb
          have e3 : (bb != bb) = false := by simp
          go_wp2_with fail
          refine (hasInt_any A3 c3 _ a _ (HLS5.out.rd (A3, listN k.ins.length (Reach (nextL k) a)) (by simp)) (HLL.out _)).mono ?_
          rintro e w6 ⟨rfl, hb6⟩
          rw [HBB.out]
          have HLS6 := Lib.hid (HLS5.out.to hb6)
          clear hb6 k0 k1 k2 k3 k4 s0 s1 s2 s3 s4 HLS5
          obtain ⟨s0, s1, s2, s3, s4⟩ := HLS6.out.lb.ks
          go_wp2_with fail
          refine (HRS.out u a hlt _ HLS6.out.lb.cs).mono ?_
          rintro e w7 ⟨A7, c7, rfl, ho7, hb7⟩
          have HLS7 := Lib.hid (HLS6.out.to hb7)
          have r7 := own_rd ho7
          clear ho7 hb7 s0 s1 s2 s3 s4 HLS6
          go_wp2_with fail
          refine (sameInts_same A3 A7 c3 c7 _ _ (HLS7.out.rd (A3, listN k.ins.length (Reach (nextL k) a)) (by simp)) r7 (HLL.out _)).mono ?_
          rintro e w8 ⟨rfl, hb8⟩
          have HLS8 := Lib.hid (HLS7.out.to hb8)
          clear hb8 HLS7 r7
          go_wp2_with fail
          go_roundg (k.ins.length - (a + 1))
          case measure => omega
          case rel => exact ⟨a + 1, by omega, rfl, by go_num, HLS8.out.lb⟩
    · obtain rfl : a = k.ins.length := by omega
      clear k0 k1 k2 k3 k4 s0 s1 s3
      have hp1 := procs_pos HR.out
      have hpp : 0 < pf.length := by omega
      have z0 : ¬ k.procs = [] := fun e => by rw [e] at hp1; simp at hp1
      have hq0 : pf[0] % k.procs.length < k.procs.length := Nat.mod_lt _ (by omega)
      go_wp2_with fail
      refine wp_region_held_drew (S := fun w' => LB w k gk gs v u w') (by kernel_rfl) (HL.out.drew) (fun hHeld => ?_)
      first | refine hs_ 0 ?_ | (refine hr_ 0 ?_ ?_ ?_; rotate_left; (intro W hW; go_simp; try with_reducible rfl))
      first | refine hs_ 4 ?_ | (refine hr_ 4 ?_ ?_ ?_; rotate_left; (intro W hW; go_simp; try with_reducible rfl))
      first | refine hs_ 5 ?_ | (refine hr_ 5 ?_ ?_ ?_; rotate_left; (intro W hW; obtain ⟨s0q, s1q, s2q, s3q, s4q⟩ := hW.ks; go_simp; try with_reducible rfl))
      first | refine hs_ 6 ?_ | (refine hr_ 6 ?_ ?_ ?_; rotate_left; (intro W hW; go_simp; try with_reducible rfl))
      refine ho_ 1 fun K hK => ?_
      go_simp
      refine (HDP.out _ hHeld.low).mono ?_
      rintro e wq6 ⟨Ap, cp, rfl, ho6, hb6⟩
      have rp := own_rd ho6
      replace hHeld := hHeld.to hb6
      clear ho6 hb6
      obtain ⟨ad5, rfl, _, hc5⟩ := rp.nat (j := 0) hpp
      rw [add_0] at hc5
      clear rp
      refine hk_ hK (hHeld) fun hHeld => ?_
      clear hK K
      first | refine hs_ 2 ?_ | (refine hr_ 2 ?_ ?_ ?_; rotate_left; (intro W hW; go_simp; try with_reducible rfl))
      refine ho_ 3 fun K hK => ?_
      go_simp
      skip
      refine hk_ hK (hHeld) fun hHeld => ?_
      clear hK K
      first | refine hs_ 7 ?_ | (refine hr_ 7 ?_ ?_ ?_; rotate_left; (intro W hW; go_simp; try with_reducible rfl))
      first | refine hs_ 8 ?_ | (refine hr_ 8 ?_ ?_ ?_; rotate_left; (intro W hW; go_simp; try with_reducible rfl))
      refine wpAnyH_done (by kernel_rfl) ?_ _
      have HL5 := Lib.hid hHeld
      clear hHeld hc5
      have hm1 : ((pf[0] : Nat) : Int).tmod (k.procs.length : Int) = ((pf[0] % k.procs.length : Nat) : Int) := (Int.ofNat_tmod _ _).symm
      have hm2 : ((pf[0] : Nat) : Int) % (k.procs.length : Int) = ((pf[0] % k.procs.length : Nat) : Int) := (Int.natCast_emod _ _).symm
      simp only [hm1, hm2]
      obtain ⟨q, hqe⟩ : ∃ q : Nat, q = pf[0] % k.procs.length := ⟨_, rfl⟩
      rw [← hqe] at hq0 ⊢
      clear hqe hm1 hm2
      have hq := hq0
      have hq1 : (q : Int) < (k.entry.length : Int) := by have := HR.out.entry; omega
      have hq2 : (0 : Int) ≤ (q : Int) := by omega
      obtain ⟨ade, eE, _, hce⟩ := HL5.out.cs.e q (.int .i64 ((ent k q : Nat) : Int)) (ent_cell HR.out hq)
      have HEE := Lib.hid eE
      have HCE := Lib.hid (fun W (h : LB w k gk gs v u W) => (show W.cell? (ade.add q) = some (.int .i64 ((ent k q : Nat) : Int)) from by
        obtain ⟨ad', e, _, hc⟩ := h.cs.e q (.int .i64 ((ent k q : Nat) : Int)) (ent_cell HR.out hq)
        rw [HEE.out] at e
        injection e with e
        rw [e]; exact hc))
      have hml : ent k q ∈ listN k.ins.length (LiveP k q) := mem_listN.2 ⟨ent_lt HR.out hq, Comes.refl _ _⟩
      clear eE hce
      go_wp2_with fail
      refine wp_region_held_drew (S := fun w' => LB w k gk gs v u w') (by kernel_rfl) (HL5.out.drew) (fun hHeld => ?_)
      first | refine hs_ 0 ?_ | (refine hr_ 0 ?_ ?_ ?_; rotate_left; (intro W hW; obtain ⟨k0q, k1q, k2q, k3q, k4q⟩ := hW.kk; go_simp; try with_reducible rfl))
      first | refine hs_ 1 ?_ | (refine hr_ 1 ?_ ?_ ?_; rotate_left; (intro W hW; go_simp; try with_reducible rfl))
      first | refine hs_ 3 ?_ | (refine hr_ 3 ?_ ?_ ?_; rotate_left; (intro W hW; obtain ⟨s0q, s1q, s2q, s3q, s4q⟩ := hW.ks; go_simp; try with_reducible rfl))
      first | refine hs_ 4 ?_ | (refine hr_ 4 ?_ ?_ ?_; rotate_left; (intro W hW; go_simp; try with_reducible rfl))
      refine ho_ 2 fun K hK => ?_
      go_simp
      refine (HLI.out v q hq _ hHeld.ck).mono ?_
      rintro e wq7 ⟨Aa, ca, rfl, ho7, hb7⟩
      have ra := own_rd ho7
      replace hHeld := hHeld.to hb7
      clear ho7 hb7
      refine hk_ hK (hHeld) fun hHeld => ?_
      clear hK K
      refine ho_ 5 fun K hK => ?_
      go_simp
      refine (HLS.out u q hq _ hHeld.cs).mono ?_
      rintro e wq8 ⟨Ab, cb, rfl, ho8, hb8⟩
      have rb := own_rd ho8
      replace ra := ra.below hb8
      replace hHeld := hHeld.to hb8
      clear ho8 hb8
      refine hk_ hK (hHeld) fun hHeld => ?_
      clear hK K
      refine ho_ 6 fun K hK => ?_
      go_simp
      refine (sameInts_same Aa Ab ca cb _ _ ra rb (HLL.out _)).mono ?_
      rintro e wq9 ⟨rfl, hb9⟩
      replace hHeld := hHeld.to hb9
      clear hb9
      clear ra rb
      refine hk_ hK (hHeld) fun hHeld => ?_
      clear hK K
      first | refine hs_ 7 ?_ | (refine hr_ 7 ?_ ?_ ?_; rotate_left; (intro W hW; go_simp; try with_reducible rfl))
      first | refine hs_ 8 ?_ | (refine hr_ 8 ?_ ?_ ?_; rotate_left; (intro W hW; obtain ⟨k0q, k1q, k2q, k3q, k4q⟩ := hW.kk; go_simp; try with_reducible rfl))
      first | refine hs_ 9 ?_ | (refine hr_ 9 ?_ ?_ ?_; rotate_left; (intro W hW; go_simp; try with_reducible rfl))
      first | refine hs_ 11 ?_ | (refine hr_ 11 ?_ ?_ ?_; rotate_left; (intro W hW; go_simp; try with_reducible rfl))
      first | refine hs_ 12 ?_ | (refine hr_ 12 ?_ ?_ ?_; rotate_left; (intro W hW; obtain ⟨s0q, s1q, s2q, s3q, s4q⟩ := hW.ks; rw [HEE.out] at s3q; have ceq := HCE.out _ hW; go_simp; try with_reducible rfl))
      first | refine hs_ 13 ?_ | (refine hr_ 13 ?_ ?_ ?_; rotate_left; (intro W hW; go_simp; try with_reducible rfl))
      first | refine hs_ 14 ?_ | (refine hr_ 14 ?_ ?_ ?_; rotate_left; (intro W hW; go_simp; try with_reducible rfl))
      first | refine hs_ 15 ?_ | (refine hr_ 15 ?_ ?_ ?_; rotate_left; (intro W hW; obtain ⟨s0q, s1q, s2q, s3q, s4q⟩ := hW.ks; rw [HEE.out] at s3q; have ceq := HCE.out _ hW; go_simp; try with_reducible rfl))
      refine ho_ 10 fun K hK => ?_
      go_simp
      refine (HLI.out v q hq _ hHeld.ck).mono ?_
      rintro e wq10 ⟨Ac, cc, rfl, ho10, hb10⟩
      have rc := own_rd ho10
      replace hHeld := hHeld.to hb10
      clear ho10 hb10
      refine hk_ hK (hHeld) fun hHeld => ?_
      clear hK K
      refine ho_ 16 fun K hK => ?_
      go_simp
      refine (hasInt_yes Ac cc _ (ent k q) _ rc (HLL.out _) hml).mono ?_
      rintro e wq11 ⟨rfl, hb11⟩
      replace hHeld := hHeld.to hb11
      clear hb11
      clear rc
      refine hk_ hK (hHeld) fun hHeld => ?_
      clear hK K
      first | refine hs_ 17 ?_ | (refine hr_ 17 ?_ ?_ ?_; rotate_left; (intro W hW; go_simp; try with_reducible rfl))
      first | refine hs_ 18 ?_ | (refine hr_ 18 ?_ ?_ ?_; rotate_left; (intro W hW; go_simp; try with_reducible rfl))
      refine wpAnyH_done (by kernel_rfl) ?_ _
      have HL6 := Lib.hid hHeld
      clear hHeld
      go_wp2_with fail
      go_ret
      exact ⟨rfl, HL6.out.low⟩

set_option maxRecDepth 100000 in
theorem lifted (os : Os) (started : os.Started) (H : Type) (enc : TypeId × Value → H) :
    ReturnsInHanded {} Tryz.checked os 6 .any (Rows.fnFlowsSpec.pre6 enc Tryz.prog Tryz.f6 Rows.fnFlowsRow.domain false) (Rows.fnFlowsSpec.post enc Tryz.prog Tryz.f6 false true false false) := by
  refine returnsInHanded_of_change (C := Tryz.checked) own started (by kernel_rfl) Tryz.func6
    (ChangeSpec.witness6 (enc := enc) (C := Tryz.checked) false ⟨#[], #[.slice none 0 0], []⟩ 8 (by kernel_rfl) (by kernel_rfl) (by kernel_rfl) (by kernel_rfl)) ?_
  intro W base args ds gs before hval0 hW hcnd _
  have hval : ∀ (j : Nat) t v, Tryz.f6.params[j]? = some t → args[j]? = some v → Value.okWide Tryz.prog W .any base t v := hval0
  have hW' := hW
  obtain ⟨p, q, hA0, hV, rfl, hfz, hnd⟩ := hW
  have hA : DataW.TrodAll enc Tryz.prog W 0 (fun _ => true) true Tryz.f6.params.toList args.toList ds p := hA0
  rw [Tryz.params6] at hA hval
  obtain ⟨v0, vs0, d0, ds0, p0, q0, hargs, rfl, rfl, h0, r0⟩ := trodAll_cons hA
  obtain ⟨rfl, rfl, rfl⟩ := trodAll_nil r0
  obtain rfl : args = #[v0] := by cases args; simp_all
  have key : ∃ (A : Option Addr) (c : Nat) (zs : List UInt8), v0 = .slice A zs.length c ∧ Rd W W.heap.size A (bytesV zs) ∧ zs.length ≤ 9223372036854775807 := by
    obtain ⟨fuel, h0⟩ := h0
    rw [slice_cells Tryz.underlying22 (hval 0 22 v0 rfl rfl)] at h0
    obtain ⟨A, c, zs, e, hr, hn⟩ := rd_bytes h0
    injection e with e
    exact ⟨A, c, zs, e, hr, hn⟩
  obtain ⟨A, c, zs, rfl, hr, hn⟩ := key
  refine (walk zs A c W hr hn).mono fun e W' ⟨he, hb⟩ => ?_
  subst he
  exact ⟨_, rfl, post_of_law laidOut rfl Tryz.underlying4 rfl (by kernel_rfl) (fun ds hds => by
    match ds, hds with
    | [d], _ => exact ⟨rfl, rfl, rfl⟩) hW' hb⟩

theorem over : Rows.fnFlowsRow.holds Tryz.pinned (OpenSpec.ofChange Rows.fnFlowsSpec) :=
  OpenClaim.holds_of_wide 6 Tryz.f6 rfl rfl rfl rfl rfl rfl rfl ⟨rfl, rfl, rfl, rfl, rfl⟩ rfl rfl rfl rfl rfl (by kernel_rfl) Tryz.func6 (by kernel_rfl)
    (of_decide_eq_true (by kernel_rfl)) (by unfold Func.isWrapper; first | (rw [if_pos (by decide +kernel)]; kernel_rfl) | (rw [if_neg (by decide +kernel)]; exact ⟨rfl, rfl⟩))
    (fun os started H enc _ => lifted os started H enc)

theorem proved : Rows.FnFlowsSaid := over
#print axioms proved
end Go.Proofs.YtkgoajnnkimkaaaGreat.fnFlows
