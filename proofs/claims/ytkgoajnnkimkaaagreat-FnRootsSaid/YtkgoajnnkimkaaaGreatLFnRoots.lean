/- In drawn code threads begin with main and with what is started, two places are beside each other either way round, and a place beside itself is of a root that is not single, or of two: the law FnRoots returns true. No condition beyond the given statement's own. -/
import Derived.Test.YtkgoajnnkimkaaaGreatH26
import Derived.Test.YtkgoajnnkimkaaaGreatMFnRootsa
set_option linter.unusedSimpArgs false
set_option linter.unusedVariables false
set_option maxRecDepth 100000
set_option maxHeartbeats 16000000
namespace Go.Proofs.YtkgoajnnkimkaaaGreat.fnRoots
open Go.ChangeShapes Go.WideShapes Go.ChangeAt Go.RowKit
theorem walk (b : List UInt8) (A : Option Addr) (c : Nat) (w : World) (h : Rd w w.heap.size A (bytesV b)) (hn : b.length ≤ 9223372036854775807) :
  Calls Tryz.prog 4 #[.slice A b.length c] w fun e w' => e = .returned (.bool true) ∧ Below w.heap.size w w' := by
 by_cases hbig : 1048576 < b.length
 ·
  have HB := Lib.hid (show Calls Tryz.prog 11 #[.slice A b.length c] w fun e w' => e = .returned (.bool true) ∧ w' = w from by
   have := big_any A c w hn
   rwa [decide_eq_true hbig] at this)
  clear hbig hn h
  go_enter Tryz.func4, Tryz.ntmps4
  go_wp2_with fail
  refine HB.out.mono ?_
  rintro e w' ⟨rfl, hw⟩
  obtain rfl : w = w' := hw.symm
  go_wp2_with fail
  go_ret
  exact ⟨rfl, Below.refl _ _⟩
 have HB := Lib.hid (show Calls Tryz.prog 11 #[.slice A b.length c] w fun e w' => e = .returned (.bool false) ∧ w' = w from by
  have := big_any A c w hn
  rwa [decide_eq_false hbig] at this)
 have hn' : b.length ≤ 1048576 := by omega
 have HD := Lib.hid (fun V (hV : Below w.heap.size w V) => drawCode_any b A c V (h.below hV).full hn')
 have HDP := Lib.hid (fun V (hV : Below w.heap.size w V) => (show Calls Tryz.prog 16 #[.slice A b.length c] V (NewNats V (placesF b)) from by
  have := drawPlaces_any b A c V (h.below hV).full hn'
  have e : ((placesF b).map fun (n : Nat) => iv (n : Int)) = nv (placesF b) := by simp [nv, natI]
  unfold NewNats
  rw [placesF_len, ← e]
  exact this))
 have hpl := placesF_len b
 generalize hpf : placesF b = pf at HDP hpl
 have hok : codeOkI (codeD (newD b)) = true := codeD_ok _
 have hcb : CdB 1048576 (codeD (newD b)) := codeD_b _
 clear hpf hbig hn hn' h
 generalize codeD (newD b) = k at HD hok hcb
 have hr := right_of hok
 have hins := hr.ins
 have hprc := hr.procs
 have HR := Lib.hid hr
 have HRO := Lib.hid (fun z  W (hz : CodeAt W W.heap.size z k) => (show Calls Tryz.prog 25 #[.agg #[.slice z.gA k.globals.length z.gc, .slice z.lA k.locks.length z.lc, .slice z.pA k.procs.length z.pc, .slice z.eA k.entry.length z.ec, .slice z.iA k.ins.length z.ic]] W (NewNats W (listN k.procs.length (RootP k))) from by
  have := rootsOf_i z k W hz hcb (by omega)
  rwa [codeL_yes hok] at this))
 have HRS := Lib.hid (fun z  W (hz : CodeAt W W.heap.size z k) => (show Calls Tryz.prog 33 #[.agg #[.slice z.gA k.globals.length z.gc, .slice z.lA k.locks.length z.lc, .slice z.pA k.procs.length z.pc, .slice z.eA k.entry.length z.ec, .slice z.iA k.ins.length z.ic]] W (NewNats W (listN k.procs.length (RootP k))) from by
  have := rootsOf_s z k W hz hcb (by omega)
  rwa [codeL_yes hok] at this))
 have HUI := Lib.hid (fun z  W (hz : CodeAt W W.heap.size z k) => (show Calls Tryz.prog 26 #[.agg #[.slice z.gA k.globals.length z.gc, .slice z.lA k.locks.length z.lc, .slice z.pA k.procs.length z.pc, .slice z.eA k.entry.length z.ec, .slice z.iA k.ins.length z.ic]] W (NewNats W (listN k.procs.length (UsedP k))) from by
  have := usedIn_i z k W hz hcb (by omega)
  rwa [codeL_yes hok] at this))
 have HUS := Lib.hid (fun z  W (hz : CodeAt W W.heap.size z k) => (show Calls Tryz.prog 34 #[.agg #[.slice z.gA k.globals.length z.gc, .slice z.lA k.locks.length z.lc, .slice z.pA k.procs.length z.pc, .slice z.eA k.entry.length z.ec, .slice z.iA k.ins.length z.ic]] W (NewNats W (listN k.procs.length (UsedP k))) from by
  have := usedIn_s z k W hz hcb (by omega)
  rwa [codeL_yes hok] at this))
 have HSG := Lib.hid (fun z (p : Nat) (hp : p < k.procs.length) W (hz : CodeAt W W.heap.size z k) => (show Calls Tryz.prog 28 #[.agg #[.slice z.gA k.globals.length z.gc, .slice z.lA k.locks.length z.lc, .slice z.pA k.procs.length z.pc, .slice z.eA k.entry.length z.ec, .slice z.iA k.ins.length z.ic], .int .i64 (p : Int)] W (fun e w' => e = .returned (.bool (singB k p)) ∧ Below W.heap.size W w') from by
  have := single_i z k (p : Int) W hz hcb (by omega)
  rwa [procB_yes hok hp] at this))
 have HSS := Lib.hid (fun z (p : Nat) (hp : p < k.procs.length) W (hz : CodeAt W W.heap.size z k) => (show Calls Tryz.prog 29 #[.agg #[.slice z.gA k.globals.length z.gc, .slice z.lA k.locks.length z.lc, .slice z.pA k.procs.length z.pc, .slice z.eA k.entry.length z.ec, .slice z.iA k.ins.length z.ic], .int .i64 (p : Int)] W (fun e w' => e = .returned (.bool (singB k p)) ∧ Below W.heap.size W w') from by
  have := single_s z k (p : Int) W hz hcb (by omega)
  rwa [procB_yes hok hp] at this))
 have HST := Lib.hid (fun z (p : Nat) (hp : p < k.procs.length) W (hz : CodeAt W W.heap.size z k) => (show Calls Tryz.prog 30 #[.agg #[.slice z.gA k.globals.length z.gc, .slice z.lA k.locks.length z.lc, .slice z.pA k.procs.length z.pc, .slice z.eA k.entry.length z.ec, .slice z.iA k.ins.length z.ic], .int .i64 (p : Int)] W (NewNats W (startsL k p)) from by
  have := startsOf_i z k (p : Int) W hz hcb (by omega)
  rwa [procL_yes hok hp] at this))
 have HRA := Lib.hid (fun z (a : Nat) (ha : a < k.ins.length) W (hz : CodeAt W W.heap.size z k) => (show Calls Tryz.prog 31 #[.agg #[.slice z.gA k.globals.length z.gc, .slice z.lA k.locks.length z.lc, .slice z.pA k.procs.length z.pc, .slice z.eA k.entry.length z.ec, .slice z.iA k.ins.length z.ic], .int .i64 (a : Int)] W (NewNats W (listN k.procs.length (AtP k a))) from by
  have := rootsAt_i z k (a : Int) W hz hcb (by omega)
  rwa [atL_yes hok ha] at this))
 have HBE := Lib.hid (fun z (a : Nat) (ha : a < k.ins.length) (b : Nat) (hb : b < k.ins.length) W (hz : CodeAt W W.heap.size z k) => (show Calls Tryz.prog 35 #[.agg #[.slice z.gA k.globals.length z.gc, .slice z.lA k.locks.length z.lc, .slice z.pA k.procs.length z.pc, .slice z.eA k.entry.length z.ec, .slice z.iA k.ins.length z.ic], .int .i64 (a : Int), .int .i64 (b : Int)] W (fun e w' => e = .returned (.bool (besideB k a b)) ∧ Below W.heap.size W w') from by
  have := beside_i z k (a : Int) (b : Int) W hz hcb (by omega)
  rwa [besideA_yes hok ha hb] at this))
 have HBS := Lib.hid (fun z (a : Nat) (ha : a < k.ins.length) (b : Nat) (hb : b < k.ins.length) W (hz : CodeAt W W.heap.size z k) => (show Calls Tryz.prog 36 #[.agg #[.slice z.gA k.globals.length z.gc, .slice z.lA k.locks.length z.lc, .slice z.pA k.procs.length z.pc, .slice z.eA k.entry.length z.ec, .slice z.iA k.ins.length z.ic], .int .i64 (a : Int), .int .i64 (b : Int)] W (fun e w' => e = .returned (.bool (besideB k a b)) ∧ Below W.heap.size W w') from by
  have := beside_s z k (a : Int) (b : Int) W hz hcb (by omega)
  rwa [besideA_yes hok ha hb] at this))
 have HMR := Lib.hid (fun x => mem_listN (n := k.procs.length) (P := RootP k) (i := x))
 have HMU := Lib.hid (fun x => mem_listN (n := k.procs.length) (P := UsedP k) (i := x))
 have hrl : (listN k.procs.length (RootP k)).length ≤ k.procs.length := listN_len _ _
 have hul : (listN k.procs.length (UsedP k)).length ≤ k.procs.length := listN_len _ _
 generalize listN k.procs.length (RootP k) = rl at HRO HRS HMR hrl
 generalize listN k.procs.length (UsedP k) = ul at HUI HUS HMU hul
 have hrl2 : rl.length ≤ 1099511627776 := by omega
 have hul2 : ul.length ≤ 1099511627776 := by omega
 clear hok hcb
 go_enter Tryz.func4, Tryz.ntmps4
 go_wp2_with fail
 refine HB.out.mono ?_
 rintro e w' ⟨rfl, hw⟩
 obtain rfl : w = w' := hw.symm
 go_wp2_with fail
 refine (HD.out _ (Below.refl _ _)).mono ?_
 rintro e w1 ⟨v, rfl, hk1, hb1⟩
 have hk1' := (hk1.sub (Nat.le_refl _) high_low).full
 go_wp2_with fail
 have hbx1 := codeBox w1 v k
 generalize w1.alloc (.cells #[.slice v.gA k.globals.length v.gc, .slice v.lA k.locks.length v.lc, .slice v.pA k.procs.length v.pc, .slice v.eA k.entry.length v.ec, .slice v.iA k.ins.length v.ic] 28) = W1 at hbx1 ⊢
 have hlow1 := below_trans' hb1 hbx1.1
 have hkv := kAt_of hbx1
 have hck := (hk1'.below hbx1.1).full
 clear hk1 hk1' hb1 hbx1
 generalize w1.heap.size = gk at hkv ⊢
 refine (HD.out W1 hlow1).mono ?_
 rintro e w2 ⟨u, rfl, hk2, hb2⟩
 have hk2' := (hk2.sub (Nat.le_refl _) high_low).full
 obtain ⟨k0, k1, k2, k3, k4⟩ := hkv.to hb2
 have hgk := World.block_lt_of_cell? _ _ k0
 have hgn : ¬ gk = w2.heap.size := Nat.ne_of_lt hgk
 go_wp2_with fail
 clear k0 k1 k2 k3 k4 hgk hgn
 have hbx2 := codeBox w2 u k
 generalize w2.alloc (.cells #[.slice u.gA k.globals.length u.gc, .slice u.lA k.locks.length u.lc, .slice u.pA k.procs.length u.pc, .slice u.eA k.entry.length u.ec, .slice u.iA k.ins.length u.ic] 28) = W2 at hbx2 ⊢
 have hb12 := below_trans' hb2 hbx2.1
 have hlb : LB w k gk w2.heap.size v u W2 := ⟨below_trans' hlow1 hb12, hkv.to hb12, kAt_of hbx2, (hck.below hb12).full, (hk2'.below hbx2.1).full⟩
 clear hk2 hk2' hb2 hbx2 hb12 hlow1 hkv hck HB HD
 generalize w2.heap.size = gs at hlb ⊢
 have HLB := Lib.hid hlb
 clear hlb
 refine (HRO.out v _ HLB.out.ck).mono ?_
 rintro e w5 ⟨A5, c5, rfl, ho5, hb5⟩
 have HL5 := Lib.hid ((HLB.out.to hb5).ls.add (own_rd ho5))
 clear ho5 hb5 HLB
 obtain ⟨k0, k1, k2, k3, k4⟩ := HL5.out.lb.kk
 go_wp2_with fail
 refine (HUI.out v _ HL5.out.lb.ck).mono ?_
 rintro e w6 ⟨A6, c6, rfl, ho6, hb6⟩
 have HL6 := Lib.hid ((HL5.out.to hb6).add (own_rd ho6))
 clear ho6 hb6 k0 k1 k2 k3 k4 HL5
 go_wp2_with fail
 refine (HDP.out _ HL6.out.lb.low).mono ?_
 rintro e w7 ⟨A7, c7, rfl, ho7, hb7⟩
 have HL7 := Lib.hid ((HL6.out.to hb7).add (own_rd ho7))
 clear ho7 hb7 HL6 HDP
 have hp0 : 0 < pf.length := by omega
 have hp1 : 1 < pf.length := by omega
 have hp2 : (1 : Int) < (pf.length : Int) := by omega
 clear hpl
 obtain ⟨ad7, rfl⟩ := HL7.out.some_ (A := A7) (xs := pf) (by simp) hp0
 have hn1 := ins_pos HR.out
 have z0 : ¬ k.ins = [] := fun e => by rw [e] at hn1; simp at hn1
 go_wp2_with fail
 refine wp_region_held_drew (S := fun w' => LS w k gk gs v u [(some ad7, pf), (A6, ul), (A5, rl)] w') (by kernel_rfl) (HL7.out.drew) (fun hHeld => ?_)
 first | refine hs_ 0 ?_ | refine hq_ 0 ?_
 first | refine hs_ 1 ?_ | refine hq_ 1 ?_
 first | refine hs_ 2 ?_ | (refine hr_ 2 ?_ ?_ ?_; rotate_left; (intro W hW; obtain ⟨s0q, s1q, s2q, s3q, s4q⟩ := hW.lb.ks; have nq := hW.at_ (ad := ad7) (by simp) hp0; rw [add_0] at nq; go_simp; try with_reducible rfl))
 first | refine hs_ 3 ?_ | refine hq_ 3 ?_
 first | refine hs_ 4 ?_ | (refine hr_ 4 ?_ ?_ ?_; rotate_left; (intro W hW; obtain ⟨s0q, s1q, s2q, s3q, s4q⟩ := hW.lb.ks; have nq := hW.at_ (ad := ad7) (by simp) hp0; rw [add_0] at nq; go_simp; try with_reducible rfl))
 first | refine hs_ 5 ?_ | refine hq_ 5 ?_
 first | refine hs_ 6 ?_ | refine hq_ 6 ?_
 first | refine hs_ 7 ?_ | refine hq_ 7 ?_
 refine wpAnyH_done (by kernel_rfl) ?_ _
 have HL8 := Lib.hid hHeld
 clear hHeld HL7
 go_wp2_with fail
 refine wp_region_held_drew (S := fun w' => LS w k gk gs v u [(some ad7, pf), (A6, ul), (A5, rl)] w') (by kernel_rfl) (HL8.out.drew) (fun hHeld => ?_)
 first | refine hs_ 0 ?_ | refine hq_ 0 ?_
 first | refine hs_ 1 ?_ | refine hq_ 1 ?_
 first | refine hs_ 2 ?_ | (refine hr_ 2 ?_ ?_ ?_; rotate_left; (intro W hW; obtain ⟨s0q, s1q, s2q, s3q, s4q⟩ := hW.lb.ks; have nq : W.cell? ⟨ad7.block, ad7.off + 1, none⟩ = some (.int .i64 (pf[1] : Int)) := hW.at_ (ad := ad7) (by simp) hp1; go_simp; try with_reducible rfl))
 first | refine hs_ 3 ?_ | refine hq_ 3 ?_
 first | refine hs_ 4 ?_ | (refine hr_ 4 ?_ ?_ ?_; rotate_left; (intro W hW; obtain ⟨s0q, s1q, s2q, s3q, s4q⟩ := hW.lb.ks; have nq : W.cell? ⟨ad7.block, ad7.off + 1, none⟩ = some (.int .i64 (pf[1] : Int)) := hW.at_ (ad := ad7) (by simp) hp1; go_simp; try with_reducible rfl))
 first | refine hs_ 5 ?_ | refine hq_ 5 ?_
 first | refine hs_ 6 ?_ | refine hq_ 6 ?_
 first | refine hs_ 7 ?_ | refine hq_ 7 ?_
 refine wpAnyH_done (by kernel_rfl) ?_ _
 have HL9 := Lib.hid (show LS w k gk gs v u [(A6, ul), (A5, rl)] _ from ⟨hHeld.lb, fun p hp => hHeld.rd p (by simp at hp ⊢; exact .inr hp)⟩)
 clear hHeld HL8
 have ea : ((pf[0] : Nat) : Int).tmod (k.ins.length : Int) = ((pf[0] % k.ins.length : Nat) : Int) := (Int.ofNat_tmod _ _).symm
 have eb : ((pf[1] : Nat) : Int).tmod (k.ins.length : Int) = ((pf[1] % k.ins.length : Nat) : Int) := (Int.ofNat_tmod _ _).symm
 have ea2 : ((pf[0] : Nat) : Int) % (k.ins.length : Int) = ((pf[0] % k.ins.length : Nat) : Int) := (Int.natCast_emod _ _).symm
 have eb2 : ((pf[1] : Nat) : Int) % (k.ins.length : Int) = ((pf[1] % k.ins.length : Nat) : Int) := (Int.natCast_emod _ _).symm
 have ha := Nat.mod_lt pf[0] hn1
 have hb := Nat.mod_lt pf[1] hn1
 simp only [ea, eb, ea2, eb2]
 clear ea eb ea2 eb2 z0
 obtain ⟨a, hae⟩ : ∃ a : Nat, a = pf[0] % k.ins.length := ⟨_, rfl⟩
 rw [← hae] at ha ⊢
 clear hae
 obtain ⟨b2, hbe⟩ : ∃ a : Nat, a = pf[1] % k.ins.length := ⟨_, rfl⟩
 rw [← hbe] at hb ⊢
 clear hbe
 have HA := Lib.hid ha
 have HB2 := Lib.hid hb
 clear ha hb
 go_wp2_with fail
 go_loopg [10] rl.length (fun l i wr => ∃ j : Nat, j ≤ rl.length ∧ l = rl.length - j ∧ i = .int .i64 j ∧ LS w k gk gs v u [(A6, ul), (A5, rl)] wr)
 case atStart => exact ⟨0, by omega, by omega, rfl, HL9.out⟩
 case round =>
  clear HL9
  obtain ⟨j, hj, rfl, rfl, hs4⟩ := hrel
  have HLS4 := Lib.hid hs4
  clear hs4
  by_cases hjl : j < rl.length
  ·
   have z1 : (j : Int) < (rl.length : Int) := by omega
   have z2 : (0 : Int) ≤ (j : Int) := by omega
   obtain ⟨ad5, rfl⟩ := HLS4.out.some_ (A := A5) (xs := rl) (by simp) (by omega)
   have hop := (HMR.out _).1 (List.getElem_mem hjl)
   have hnl := hop.1
   have hmu : rl[j] ∈ ul := (HMU.out _).2 ⟨hnl, root_used hop.2⟩
   have y1 : ((rl[j] : Nat) : Int) < (k.procs.length : Int) := by omega
   have y2 : (0 : Int) ≤ ((rl[j] : Nat) : Int) := by omega
   obtain ⟨adp, eP, _, hcp⟩ := HLS4.out.lb.cs.p.str hnl
   have HPE := Lib.hid eP
   have HPC := Lib.hid (fun W (h : LB w k gk gs v u W) => (show W.cell? (adp.add rl[j]) = some (.string k.procs[rl[j]]) from by
    obtain ⟨ad', e, _, hc⟩ := h.cs.p.str hnl
    rw [HPE.out] at e
    injection e with e
    rw [e]; exact hc))
   clear eP hcp
   have e3 : (singB k rl[j] != singB k rl[j]) = false := by simp
   by_cases hm : k.procs[rl[j]] = mainS
   ·
    have e4 : (k.procs[rl[j]].toList == [109, 97, 105, 110]) = true := main_eq hm
    clear hop hm
    go_wp2_with fail
    refine wp_region_held_drew (S := fun w' => LS w k gk gs v u [(A6, ul), (some ad5, rl)] w') (by kernel_rfl) (HLS4.out.drew) (fun hHeld => ?_)
    first | refine hs_ 0 ?_ | refine hq_ 0 ?_
    first | refine hs_ 1 ?_ | refine hq_ 1 ?_
    first | refine hs_ 2 ?_ | refine hq_ 2 ?_
    first | refine hs_ 3 ?_ | refine hq_ 3 ?_
    first | refine hs_ 4 ?_ | (refine hr_ 4 ?_ ?_ ?_; rotate_left; (intro W hW; obtain ⟨s0q, s1q, s2q, s3q, s4q⟩ := hW.lb.ks; rw [HPE.out] at s2q; have nq := hW.at_ (ad := ad5) (by simp) hjl; have pq := HPC.out _ hW.lb; go_simp; try with_reducible rfl))
    refine ho_ 5 fun K hK => ?_
    go_simp
    refine (hasInt_yes A6 c6 _ rl[j] _ (hHeld.rd (A6, ul) (by simp)) hul2 hmu).mono ?_
    rintro e wq10 ⟨rfl, hb10⟩
    replace hHeld := hHeld.to hb10
    clear hb10
    refine hk_ hK (hHeld) fun hHeld => ?_
    clear hK K
    first | refine hs_ 6 ?_ | refine hq_ 6 ?_
    first | refine hs_ 7 ?_ | refine hq_ 7 ?_
    first | refine hs_ 8 ?_ | (refine hr_ 8 ?_ ?_ ?_; rotate_left; (intro W hW; obtain ⟨k0q, k1q, k2q, k3q, k4q⟩ := hW.lb.kk; go_simp; try with_reducible rfl))
    first | refine hs_ 9 ?_ | refine hq_ 9 ?_
    first | refine hs_ 10 ?_ | refine hq_ 10 ?_
    first | refine hs_ 11 ?_ | refine hq_ 11 ?_
    first | refine hs_ 12 ?_ | (refine hr_ 12 ?_ ?_ ?_; rotate_left; (intro W hW; obtain ⟨s0q, s1q, s2q, s3q, s4q⟩ := hW.lb.ks; rw [HPE.out] at s2q; have nq := hW.at_ (ad := ad5) (by simp) hjl; have pq := HPC.out _ hW.lb; go_simp; try with_reducible rfl))
    first | refine hs_ 14 ?_ | (refine hr_ 14 ?_ ?_ ?_; rotate_left; (intro W hW; obtain ⟨s0q, s1q, s2q, s3q, s4q⟩ := hW.lb.ks; go_simp; try with_reducible rfl))
    first | refine hs_ 15 ?_ | refine hq_ 15 ?_
    first | refine hs_ 16 ?_ | refine hq_ 16 ?_
    first | refine hs_ 17 ?_ | refine hq_ 17 ?_
    first | refine hs_ 18 ?_ | (refine hr_ 18 ?_ ?_ ?_; rotate_left; (intro W hW; obtain ⟨s0q, s1q, s2q, s3q, s4q⟩ := hW.lb.ks; rw [HPE.out] at s2q; have nq := hW.at_ (ad := ad5) (by simp) hjl; have pq := HPC.out _ hW.lb; go_simp; try with_reducible rfl))
    refine ho_ 13 fun K hK => ?_
    go_simp
    refine (HSG.out v rl[j] hnl _ hHeld.lb.ck).mono ?_
    rintro e wq11 ⟨rfl, hb11⟩
    replace hHeld := hHeld.to hb11
    clear hb11
    refine hk_ hK (hHeld) fun hHeld => ?_
    clear hK K
    refine ho_ 19 fun K hK => ?_
    go_simp
    refine (HSS.out u rl[j] hnl _ hHeld.lb.cs).mono ?_
    rintro e wq12 ⟨rfl, hb12⟩
    replace hHeld := hHeld.to hb12
    clear hb12
    refine hk_ hK (hHeld) fun hHeld => ?_
    clear hK K
    first | refine hs_ 20 ?_ | refine hq_ 20 ?_
    first | refine hs_ 21 ?_ | refine hq_ 21 ?_
    first | refine hs_ 22 ?_ | refine hq_ 22 ?_
    first | refine hs_ 23 ?_ | refine hq_ 23 ?_
    first | refine hs_ 24 ?_ | (refine hr_ 24 ?_ ?_ ?_; rotate_left; (intro W hW; obtain ⟨s0q, s1q, s2q, s3q, s4q⟩ := hW.lb.ks; rw [HPE.out] at s2q; have nq := hW.at_ (ad := ad5) (by simp) hjl; have pq := HPC.out _ hW.lb; go_simp; try with_reducible rfl))
    first | refine hs_ 25 ?_ | refine hq_ 25 ?_
    first | refine hs_ 26 ?_ | refine hq_ 26 ?_
    first | refine hs_ 27 ?_ | refine hq_ 27 ?_
    first | refine hs_ 28 ?_ | (refine hr_ 28 ?_ ?_ ?_; rotate_left; (intro W hW; obtain ⟨s0q, s1q, s2q, s3q, s4q⟩ := hW.lb.ks; rw [HPE.out] at s2q; have nq := hW.at_ (ad := ad5) (by simp) hjl; have pq := HPC.out _ hW.lb; go_simp; try with_reducible rfl))
    first | refine hs_ 29 ?_ | refine hq_ 29 ?_
    first | refine hs_ 30 ?_ | (refine hr_ 30 ?_ ?_ ?_; rotate_left; (intro W hW; obtain ⟨s0q, s1q, s2q, s3q, s4q⟩ := hW.lb.ks; rw [HPE.out] at s2q; have nq := hW.at_ (ad := ad5) (by simp) hjl; have pq := HPC.out _ hW.lb; go_simp; try with_reducible rfl))
    first | refine hs_ 31 ?_ | refine hq_ 31 ?_
    first | refine hs_ 32 ?_ | refine hq_ 32 ?_
    first | refine hs_ 33 ?_ | (refine hr_ 33 ?_ ?_ ?_; rotate_left; (intro W hW; obtain ⟨k0q, k1q, k2q, k3q, k4q⟩ := hW.lb.kk; go_simp; try with_reducible rfl))
    first | refine hs_ 34 ?_ | refine hq_ 34 ?_
    first | refine hs_ 35 ?_ | refine hq_ 35 ?_
    first | refine hs_ 36 ?_ | refine hq_ 36 ?_
    first | refine hs_ 37 ?_ | (refine hr_ 37 ?_ ?_ ?_; rotate_left; (intro W hW; obtain ⟨s0q, s1q, s2q, s3q, s4q⟩ := hW.lb.ks; rw [HPE.out] at s2q; have nq := hW.at_ (ad := ad5) (by simp) hjl; have pq := HPC.out _ hW.lb; go_simp; try with_reducible rfl))
    first | refine hs_ 38 ?_ | refine hq_ 38 ?_
    first | refine hs_ 39 ?_ | refine hq_ 39 ?_
    first | refine hs_ 40 ?_ | refine hq_ 40 ?_
    first | refine hs_ 41 ?_ | refine hq_ 41 ?_
    first | refine hs_ 42 ?_ | refine hq_ 42 ?_
    refine wpAnyH_done (by kernel_rfl) ?_ _
    have HLS9 := Lib.hid hHeld
    clear hHeld
    go_wp2_with fail
    go_roundg (rl.length - (j + 1))
    case measure => omega
    case rel => exact ⟨j + 1, by omega, rfl, by go_num, HLS9.out⟩
   ·
    have hne := main_starts HR.out hop.2 hnl hm
    have e4 : (k.procs[rl[j]].toList == [109, 97, 105, 110]) = false := main_neq hm
    have e5 : (((startsL k rl[j]).length : Int) == 0) = false := by simp; exact fun h => hne (by rw [h]; rfl)
    clear hop hm hne
    go_wp2_with fail
    refine wp_region_held_drew (S := fun w' => LS w k gk gs v u [(A6, ul), (some ad5, rl)] w') (by kernel_rfl) (HLS4.out.drew) (fun hHeld => ?_)
    first | refine hs_ 0 ?_ | refine hq_ 0 ?_
    first | refine hs_ 1 ?_ | refine hq_ 1 ?_
    first | refine hs_ 2 ?_ | refine hq_ 2 ?_
    first | refine hs_ 3 ?_ | refine hq_ 3 ?_
    first | refine hs_ 4 ?_ | (refine hr_ 4 ?_ ?_ ?_; rotate_left; (intro W hW; obtain ⟨s0q, s1q, s2q, s3q, s4q⟩ := hW.lb.ks; rw [HPE.out] at s2q; have nq := hW.at_ (ad := ad5) (by simp) hjl; have pq := HPC.out _ hW.lb; go_simp; try with_reducible rfl))
    refine ho_ 5 fun K hK => ?_
    go_simp
    refine (hasInt_yes A6 c6 _ rl[j] _ (hHeld.rd (A6, ul) (by simp)) hul2 hmu).mono ?_
    rintro e wq13 ⟨rfl, hb13⟩
    replace hHeld := hHeld.to hb13
    clear hb13
    refine hk_ hK (hHeld) fun hHeld => ?_
    clear hK K
    first | refine hs_ 6 ?_ | refine hq_ 6 ?_
    first | refine hs_ 7 ?_ | refine hq_ 7 ?_
    first | refine hs_ 8 ?_ | (refine hr_ 8 ?_ ?_ ?_; rotate_left; (intro W hW; obtain ⟨k0q, k1q, k2q, k3q, k4q⟩ := hW.lb.kk; go_simp; try with_reducible rfl))
    first | refine hs_ 9 ?_ | refine hq_ 9 ?_
    first | refine hs_ 10 ?_ | refine hq_ 10 ?_
    first | refine hs_ 11 ?_ | refine hq_ 11 ?_
    first | refine hs_ 12 ?_ | (refine hr_ 12 ?_ ?_ ?_; rotate_left; (intro W hW; obtain ⟨s0q, s1q, s2q, s3q, s4q⟩ := hW.lb.ks; rw [HPE.out] at s2q; have nq := hW.at_ (ad := ad5) (by simp) hjl; have pq := HPC.out _ hW.lb; go_simp; try with_reducible rfl))
    first | refine hs_ 14 ?_ | (refine hr_ 14 ?_ ?_ ?_; rotate_left; (intro W hW; obtain ⟨s0q, s1q, s2q, s3q, s4q⟩ := hW.lb.ks; go_simp; try with_reducible rfl))
    first | refine hs_ 15 ?_ | refine hq_ 15 ?_
    first | refine hs_ 16 ?_ | refine hq_ 16 ?_
    first | refine hs_ 17 ?_ | refine hq_ 17 ?_
    first | refine hs_ 18 ?_ | (refine hr_ 18 ?_ ?_ ?_; rotate_left; (intro W hW; obtain ⟨s0q, s1q, s2q, s3q, s4q⟩ := hW.lb.ks; rw [HPE.out] at s2q; have nq := hW.at_ (ad := ad5) (by simp) hjl; have pq := HPC.out _ hW.lb; go_simp; try with_reducible rfl))
    refine ho_ 13 fun K hK => ?_
    go_simp
    refine (HSG.out v rl[j] hnl _ hHeld.lb.ck).mono ?_
    rintro e wq14 ⟨rfl, hb14⟩
    replace hHeld := hHeld.to hb14
    clear hb14
    refine hk_ hK (hHeld) fun hHeld => ?_
    clear hK K
    refine ho_ 19 fun K hK => ?_
    go_simp
    refine (HSS.out u rl[j] hnl _ hHeld.lb.cs).mono ?_
    rintro e wq15 ⟨rfl, hb15⟩
    replace hHeld := hHeld.to hb15
    clear hb15
    refine hk_ hK (hHeld) fun hHeld => ?_
    clear hK K
    first | refine hs_ 20 ?_ | refine hq_ 20 ?_
    first | refine hs_ 21 ?_ | refine hq_ 21 ?_
    first | refine hs_ 22 ?_ | refine hq_ 22 ?_
    first | refine hs_ 23 ?_ | refine hq_ 23 ?_
    first | refine hs_ 24 ?_ | (refine hr_ 24 ?_ ?_ ?_; rotate_left; (intro W hW; obtain ⟨s0q, s1q, s2q, s3q, s4q⟩ := hW.lb.ks; rw [HPE.out] at s2q; have nq := hW.at_ (ad := ad5) (by simp) hjl; have pq := HPC.out _ hW.lb; go_simp; try with_reducible rfl))
    first | refine hs_ 25 ?_ | refine hq_ 25 ?_
    first | refine hs_ 26 ?_ | refine hq_ 26 ?_
    first | refine hs_ 27 ?_ | refine hq_ 27 ?_
    first | refine hs_ 28 ?_ | (refine hr_ 28 ?_ ?_ ?_; rotate_left; (intro W hW; obtain ⟨s0q, s1q, s2q, s3q, s4q⟩ := hW.lb.ks; rw [HPE.out] at s2q; have nq := hW.at_ (ad := ad5) (by simp) hjl; have pq := HPC.out _ hW.lb; go_simp; try with_reducible rfl))
    first | refine hs_ 29 ?_ | refine hq_ 29 ?_
    first | refine hs_ 30 ?_ | (refine hr_ 30 ?_ ?_ ?_; rotate_left; (intro W hW; obtain ⟨s0q, s1q, s2q, s3q, s4q⟩ := hW.lb.ks; rw [HPE.out] at s2q; have nq := hW.at_ (ad := ad5) (by simp) hjl; have pq := HPC.out _ hW.lb; go_simp; try with_reducible rfl))
    first | refine hs_ 31 ?_ | refine hq_ 31 ?_
    first | refine hs_ 32 ?_ | refine hq_ 32 ?_
    first | refine hs_ 33 ?_ | (refine hr_ 33 ?_ ?_ ?_; rotate_left; (intro W hW; obtain ⟨k0q, k1q, k2q, k3q, k4q⟩ := hW.lb.kk; go_simp; try with_reducible rfl))
    first | refine hs_ 34 ?_ | refine hq_ 34 ?_
    first | refine hs_ 35 ?_ | refine hq_ 35 ?_
    first | refine hs_ 36 ?_ | refine hq_ 36 ?_
    first | refine hs_ 37 ?_ | (refine hr_ 37 ?_ ?_ ?_; rotate_left; (intro W hW; obtain ⟨s0q, s1q, s2q, s3q, s4q⟩ := hW.lb.ks; rw [HPE.out] at s2q; have nq := hW.at_ (ad := ad5) (by simp) hjl; have pq := HPC.out _ hW.lb; go_simp; try with_reducible rfl))
    refine ho_ 38 fun K hK => ?_
    go_simp
    refine (HST.out v rl[j] hnl _ hHeld.lb.ck).mono ?_
    rintro e wq16 ⟨As, cs, rfl, ho16, hb16⟩
    have rs := own_rd ho16
    replace hHeld := hHeld.to hb16
    clear ho16 hb16
    clear rs
    refine hk_ hK (hHeld) fun hHeld => ?_
    clear hK K
    first | refine hs_ 39 ?_ | refine hq_ 39 ?_
    first | refine hs_ 40 ?_ | refine hq_ 40 ?_
    first | refine hs_ 41 ?_ | refine hq_ 41 ?_
    first | refine hs_ 42 ?_ | refine hq_ 42 ?_
    refine wpAnyH_done (by kernel_rfl) ?_ _
    have HLS9 := Lib.hid hHeld
    clear hHeld
    go_wp2_with fail
    go_roundg (rl.length - (j + 1))
    case measure => omega
    case rel => exact ⟨j + 1, by omega, rfl, by go_num, HLS9.out⟩
  ·
   obtain rfl : j = rl.length := by omega
   have HLS4 := Lib.hid HLS4.out
   obtain ⟨k0, k1, k2, k3, k4⟩ := HLS4.out.lb.kk
   go_wp2_with fail
   have HMA := Lib.hid (fun x => mem_listN (n := k.procs.length) (P := AtP k a) (i := x))
   have hal : (listN k.procs.length (AtP k a)).length ≤ k.procs.length := listN_len _ _
   have HBB := Lib.hid (beside_self HR.out a)
   have HAT := Lib.hid (HRA.out v a HA.out)
   clear HRA
   generalize listN k.procs.length (AtP k a) = al at HAT HMA hal HBB
   refine (HAT.out _ HLS4.out.lb.ck).mono ?_
   rintro e w5 ⟨A11, c11, rfl, ho5, hb5⟩
   have HL5 := Lib.hid ((HLS4.out.to hb5).add (own_rd ho5))
   clear ho5 hb5 k0 k1 k2 k3 k4 HLS4
   go_wp2_with fail
   go_loopg [12, 13] al.length (fun l y i wr => ∃ j : Nat, j ≤ al.length ∧ l = al.length - j ∧ i = .int .i64 j ∧ y = .bool ((al.take j).any (fun r => decide (1 < al.length) || !singB k r)) ∧ LS w k gk gs v u [(A11, al), (A6, ul), (A5, rl)] wr)
   case atStart => exact ⟨0, by omega, by omega, rfl, rfl, HL5.out⟩
   case round =>
    clear HL5
    obtain ⟨j, hj, rfl, rfl, rfl, hs4⟩ := hrel
    have HLS6 := Lib.hid hs4
    clear hs4
    by_cases hjl : j < al.length
    ·
     have z1 : (j : Int) < (al.length : Int) := by omega
     have z2 : (0 : Int) ≤ (j : Int) := by omega
     obtain ⟨ad11, rfl⟩ := HLS6.out.some_ (A := A11) (xs := al) (by simp) (by omega)
     have hop := (HMA.out _).1 (List.getElem_mem hjl)
     have hnl := hop.1
     have hmr : al[j] ∈ rl := (HMR.out _).2 ⟨hnl, hop.2.2.1⟩
     have nq := HLS6.out.at_ (ad := ad11) (by simp) hjl
     have HT := Lib.hid (any_step (fun r => decide (1 < al.length) || !singB k r) hjl)
     clear hop
     go_wp2_with fail
     refine (hasInt_yes A5 c5 _ al[j] _ (HLS6.out.rd (A5, rl) (by simp)) hrl2 hmr).mono ?_
     rintro e w7 ⟨rfl, hb7⟩
     have HLS7 := Lib.hid (HLS6.out.to hb7)
     clear hb7 HLS6 nq
     cases hbb : (al.take j).any (fun r => decide (1 < al.length) || !singB k r)
     ·
      rw [hbb, Bool.false_or] at HT
      clear hbb
      by_cases h1 : 1 < al.length
      ·
       have e6 : (1 : Int) < (al.length : Int) := by omega
       replace HT := Lib.hid (HT.out.trans (show (decide (1 < al.length) || !singB k al[j]) = true from by rw [decide_eq_true h1]; rfl))
       go_wp2_with fail
       refine wp_region_held_drew (S := fun w' => LS w k gk gs v u [(some ad11, al), (A6, ul), (A5, rl)] w') (by kernel_rfl) (HLS7.out.drew) (fun hHeld => ?_)
       first | refine hs_ 0 ?_ | refine hq_ 0 ?_
       first | refine hs_ 1 ?_ | refine hq_ 1 ?_
       first | refine hs_ 2 ?_ | refine hq_ 2 ?_
       first | refine hs_ 3 ?_ | refine hq_ 3 ?_
       first | refine hs_ 4 ?_ | refine hq_ 4 ?_
       first | refine hs_ 5 ?_ | refine hq_ 5 ?_
       first | refine hs_ 6 ?_ | refine hq_ 6 ?_
       first | refine hs_ 7 ?_ | (refine hr_ 7 ?_ ?_ ?_; rotate_left; (intro W hW; obtain ⟨s0q, s1q, s2q, s3q, s4q⟩ := hW.lb.ks; go_simp; try with_reducible rfl))
       first | refine hs_ 8 ?_ | refine hq_ 8 ?_
       first | refine hs_ 9 ?_ | refine hq_ 9 ?_
       first | refine hs_ 10 ?_ | refine hq_ 10 ?_
       first | refine hs_ 11 ?_ | (refine hr_ 11 ?_ ?_ ?_; rotate_left; (intro W hW; have nq := hW.at_ (ad := ad11) (by simp) hjl; go_simp; try with_reducible rfl))
       first | refine hs_ 12 ?_ | refine hq_ 12 ?_
       first | refine hs_ 13 ?_ | refine hq_ 13 ?_
       first | refine hs_ 14 ?_ | refine hq_ 14 ?_
       first | refine hs_ 15 ?_ | refine hq_ 15 ?_
       refine wpAnyH_done (by kernel_rfl) ?_ _
       have HLS9 := Lib.hid hHeld
       clear hHeld
       go_wp2_with fail
       go_roundg (al.length - (j + 1))
       case measure => omega
       case rel => exact ⟨j + 1, by omega, rfl, by go_num, congrArg Value.bool (HT.out.symm), HLS9.out⟩
      ·
       have e6 : decide ((1 : Int) < (al.length : Int)) = false := decide_eq_false (by omega)
       replace HT := Lib.hid (HT.out.trans (show (decide (1 < al.length) || !singB k al[j]) = (!singB k al[j]) from by rw [decide_eq_false h1]; rfl))
       go_wp2_with fail
       refine wp_region_held_drew (S := fun w' => LS w k gk gs v u [(some ad11, al), (A6, ul), (A5, rl)] w') (by kernel_rfl) (HLS7.out.drew) (fun hHeld => ?_)
       first | refine hs_ 0 ?_ | refine hq_ 0 ?_
       first | refine hs_ 1 ?_ | refine hq_ 1 ?_
       first | refine hs_ 2 ?_ | refine hq_ 2 ?_
       first | refine hs_ 3 ?_ | refine hq_ 3 ?_
       first | refine hs_ 4 ?_ | refine hq_ 4 ?_
       first | refine hs_ 5 ?_ | refine hq_ 5 ?_
       first | refine hs_ 6 ?_ | refine hq_ 6 ?_
       first | refine hs_ 7 ?_ | (refine hr_ 7 ?_ ?_ ?_; rotate_left; (intro W hW; obtain ⟨s0q, s1q, s2q, s3q, s4q⟩ := hW.lb.ks; go_simp; try with_reducible rfl))
       first | refine hs_ 8 ?_ | refine hq_ 8 ?_
       first | refine hs_ 9 ?_ | refine hq_ 9 ?_
       first | refine hs_ 10 ?_ | refine hq_ 10 ?_
       first | refine hs_ 11 ?_ | (refine hr_ 11 ?_ ?_ ?_; rotate_left; (intro W hW; have nq := hW.at_ (ad := ad11) (by simp) hjl; go_simp; try with_reducible rfl))
       refine ho_ 12 fun K hK => ?_
       go_simp
       refine (HSS.out u al[j] hnl _ hHeld.lb.cs).mono ?_
       rintro e wq17 ⟨rfl, hb17⟩
       replace hHeld := hHeld.to hb17
       clear hb17
       refine hk_ hK (hHeld) fun hHeld => ?_
       clear hK K
       first | refine hs_ 13 ?_ | refine hq_ 13 ?_
       first | refine hs_ 14 ?_ | refine hq_ 14 ?_
       first | refine hs_ 15 ?_ | refine hq_ 15 ?_
       refine wpAnyH_done (by kernel_rfl) ?_ _
       have HLS9 := Lib.hid hHeld
       clear hHeld
       go_wp2_with fail
       go_roundg (al.length - (j + 1))
       case measure => omega
       case rel => exact ⟨j + 1, by omega, rfl, by go_num, congrArg Value.bool (HT.out.symm), HLS9.out⟩
     ·
      rw [hbb, Bool.true_or] at HT
      clear hbb
      go_wp2_with fail
      refine wp_region_held_drew (S := fun w' => LS w k gk gs v u [(some ad11, al), (A6, ul), (A5, rl)] w') (by kernel_rfl) (HLS7.out.drew) (fun hHeld => ?_)
      first | refine hs_ 0 ?_ | refine hq_ 0 ?_
      first | refine hs_ 1 ?_ | refine hq_ 1 ?_
      first | refine hs_ 2 ?_ | refine hq_ 2 ?_
      first | refine hs_ 3 ?_ | refine hq_ 3 ?_
      first | refine hs_ 4 ?_ | refine hq_ 4 ?_
      first | refine hs_ 5 ?_ | refine hq_ 5 ?_
      first | refine hs_ 6 ?_ | refine hq_ 6 ?_
      first | refine hs_ 7 ?_ | (refine hr_ 7 ?_ ?_ ?_; rotate_left; (intro W hW; obtain ⟨s0q, s1q, s2q, s3q, s4q⟩ := hW.lb.ks; go_simp; try with_reducible rfl))
      first | refine hs_ 8 ?_ | refine hq_ 8 ?_
      first | refine hs_ 9 ?_ | refine hq_ 9 ?_
      first | refine hs_ 10 ?_ | refine hq_ 10 ?_
      first | refine hs_ 11 ?_ | (refine hr_ 11 ?_ ?_ ?_; rotate_left; (intro W hW; have nq := hW.at_ (ad := ad11) (by simp) hjl; go_simp; try with_reducible rfl))
      first | refine hs_ 12 ?_ | refine hq_ 12 ?_
      first | refine hs_ 13 ?_ | refine hq_ 13 ?_
      first | refine hs_ 14 ?_ | refine hq_ 14 ?_
      first | refine hs_ 15 ?_ | refine hq_ 15 ?_
      refine wpAnyH_done (by kernel_rfl) ?_ _
      have HLS9 := Lib.hid hHeld
      clear hHeld
      go_wp2_with fail
      go_roundg (al.length - (j + 1))
      case measure => omega
      case rel => exact ⟨j + 1, by omega, rfl, by go_num, congrArg Value.bool (HT.out.symm), HLS9.out⟩
    ·
     obtain rfl : j = al.length := by omega
     rw [List.take_of_length_le (Nat.le_refl _), ← HBB.out]
     have HAB := Lib.hid (And.intro (HBE.out v a HA.out b2 HB2.out) (And.intro (show ∀ W (hz : CodeAt W W.heap.size v k), Calls Tryz.prog 35 #[.agg #[.slice v.gA k.globals.length v.gc, .slice v.lA k.locks.length v.lc, .slice v.pA k.procs.length v.pc, .slice v.eA k.entry.length v.ec, .slice v.iA k.ins.length v.ic], .int .i64 (b2 : Int), .int .i64 (a : Int)] W (fun e w' => e = .returned (.bool (besideB k a b2)) ∧ Below W.heap.size W w') from by
      rw [besideB_comm a b2]; exact HBE.out v b2 HB2.out a HA.out) (And.intro (HBS.out u a HA.out b2 HB2.out) (HBE.out v a HA.out a HA.out))))
     clear HBE HBS
     generalize besideB k a b2 = x at HAB
     generalize besideB k a a = y at HAB ⊢
     have e7 : (x == x) = true := by simp
     have e8 : (y == y) = true := by simp
     go_wp2_with fail
     refine wp_region_held_drew (S := fun w' => LS w k gk gs v u [(A11, al), (A6, ul), (A5, rl)] w') (by kernel_rfl) (HLS6.out.drew) (fun hHeld => ?_)
     first | refine hs_ 0 ?_ | refine hq_ 0 ?_
     first | refine hs_ 1 ?_ | (refine hr_ 1 ?_ ?_ ?_; rotate_left; (intro W hW; obtain ⟨s0q, s1q, s2q, s3q, s4q⟩ := hW.lb.ks; go_simp; try with_reducible rfl))
     refine ho_ 2 fun K hK => ?_
     go_simp
     refine (HRS.out u _ hHeld.lb.cs).mono ?_
     rintro e wq1 ⟨Aa, ca, rfl, ho1, hb1⟩
     have ra := own_rd ho1
     replace hHeld := hHeld.to hb1
     clear ho1 hb1
     refine hk_ hK (hHeld) fun hHeld => ?_
     clear hK K
     refine ho_ 3 fun K hK => ?_
     go_simp
     refine (sameInts_same A5 Aa c5 ca _ _ (hHeld.rd (A5, rl) (by simp)) ra hrl2).mono ?_
     rintro e wq2 ⟨rfl, hb2⟩
     replace hHeld := hHeld.to hb2
     clear hb2
     clear ra
     refine hk_ hK (hHeld) fun hHeld => ?_
     clear hK K
     first | refine hs_ 4 ?_ | refine hq_ 4 ?_
     first | refine hs_ 5 ?_ | refine hq_ 5 ?_
     first | refine hs_ 6 ?_ | (refine hr_ 6 ?_ ?_ ?_; rotate_left; (intro W hW; obtain ⟨s0q, s1q, s2q, s3q, s4q⟩ := hW.lb.ks; go_simp; try with_reducible rfl))
     refine ho_ 7 fun K hK => ?_
     go_simp
     refine (HUS.out u _ hHeld.lb.cs).mono ?_
     rintro e wq3 ⟨Ab, cb, rfl, ho3, hb3⟩
     have rb := own_rd ho3
     replace hHeld := hHeld.to hb3
     clear ho3 hb3
     refine hk_ hK (hHeld) fun hHeld => ?_
     clear hK K
     refine ho_ 8 fun K hK => ?_
     go_simp
     refine (sameInts_same A6 Ab c6 cb _ _ (hHeld.rd (A6, ul) (by simp)) rb hul2).mono ?_
     rintro e wq4 ⟨rfl, hb4⟩
     replace hHeld := hHeld.to hb4
     clear hb4
     clear rb
     refine hk_ hK (hHeld) fun hHeld => ?_
     clear hK K
     first | refine hs_ 9 ?_ | refine hq_ 9 ?_
     first | refine hs_ 10 ?_ | refine hq_ 10 ?_
     first | refine hs_ 11 ?_ | (refine hr_ 11 ?_ ?_ ?_; rotate_left; (intro W hW; obtain ⟨k0q, k1q, k2q, k3q, k4q⟩ := hW.lb.kk; go_simp; try with_reducible rfl))
     first | refine hs_ 12 ?_ | refine hq_ 12 ?_
     first | refine hs_ 13 ?_ | refine hq_ 13 ?_
     first | refine hs_ 15 ?_ | (refine hr_ 15 ?_ ?_ ?_; rotate_left; (intro W hW; obtain ⟨k0q, k1q, k2q, k3q, k4q⟩ := hW.lb.kk; go_simp; try with_reducible rfl))
     first | refine hs_ 16 ?_ | refine hq_ 16 ?_
     first | refine hs_ 17 ?_ | refine hq_ 17 ?_
     refine ho_ 14 fun K hK => ?_
     go_simp
     refine (HAB.out.1 _ hHeld.lb.ck).mono ?_
     rintro e wq5 ⟨rfl, hb5⟩
     replace hHeld := hHeld.to hb5
     clear hb5
     refine hk_ hK (hHeld) fun hHeld => ?_
     clear hK K
     refine ho_ 18 fun K hK => ?_
     go_simp
     refine (HAB.out.2.1 _ hHeld.lb.ck).mono ?_
     rintro e wq6 ⟨rfl, hb6⟩
     replace hHeld := hHeld.to hb6
     clear hb6
     refine hk_ hK (hHeld) fun hHeld => ?_
     clear hK K
     first | refine hs_ 19 ?_ | refine hq_ 19 ?_
     first | refine hs_ 20 ?_ | refine hq_ 20 ?_
     first | refine hs_ 21 ?_ | refine hq_ 21 ?_
     first | refine hs_ 22 ?_ | (refine hr_ 22 ?_ ?_ ?_; rotate_left; (intro W hW; obtain ⟨k0q, k1q, k2q, k3q, k4q⟩ := hW.lb.kk; go_simp; try with_reducible rfl))
     first | refine hs_ 23 ?_ | refine hq_ 23 ?_
     first | refine hs_ 24 ?_ | refine hq_ 24 ?_
     first | refine hs_ 26 ?_ | (refine hr_ 26 ?_ ?_ ?_; rotate_left; (intro W hW; obtain ⟨s0q, s1q, s2q, s3q, s4q⟩ := hW.lb.ks; go_simp; try with_reducible rfl))
     first | refine hs_ 27 ?_ | refine hq_ 27 ?_
     first | refine hs_ 28 ?_ | refine hq_ 28 ?_
     refine ho_ 25 fun K hK => ?_
     go_simp
     refine (HAB.out.1 _ hHeld.lb.ck).mono ?_
     rintro e wq7 ⟨rfl, hb7⟩
     replace hHeld := hHeld.to hb7
     clear hb7
     refine hk_ hK (hHeld) fun hHeld => ?_
     clear hK K
     refine ho_ 29 fun K hK => ?_
     go_simp
     refine (HAB.out.2.2.1 _ hHeld.lb.cs).mono ?_
     rintro e wq8 ⟨rfl, hb8⟩
     replace hHeld := hHeld.to hb8
     clear hb8
     refine hk_ hK (hHeld) fun hHeld => ?_
     clear hK K
     first | refine hs_ 30 ?_ | refine hq_ 30 ?_
     first | refine hs_ 31 ?_ | refine hq_ 31 ?_
     first | refine hs_ 32 ?_ | refine hq_ 32 ?_
     first | refine hs_ 33 ?_ | (refine hr_ 33 ?_ ?_ ?_; rotate_left; (intro W hW; obtain ⟨k0q, k1q, k2q, k3q, k4q⟩ := hW.lb.kk; go_simp; try with_reducible rfl))
     first | refine hs_ 34 ?_ | refine hq_ 34 ?_
     first | refine hs_ 35 ?_ | refine hq_ 35 ?_
     first | refine hs_ 37 ?_ | refine hq_ 37 ?_
     refine ho_ 36 fun K hK => ?_
     go_simp
     refine (HAB.out.2.2.2 _ hHeld.lb.ck).mono ?_
     rintro e wq9 ⟨rfl, hb9⟩
     replace hHeld := hHeld.to hb9
     clear hb9
     refine hk_ hK (hHeld) fun hHeld => ?_
     clear hK K
     first | refine hs_ 38 ?_ | refine hq_ 38 ?_
     first | refine hs_ 39 ?_ | refine hq_ 39 ?_
     first | refine hs_ 40 ?_ | refine hq_ 40 ?_
     refine wpAnyH_done (by kernel_rfl) ?_ _
     have HL9 := Lib.hid hHeld
     clear hHeld
     go_wp2_with fail
     go_ret
     exact ⟨rfl, HL9.out.lb.low⟩
theorem lifted (os : Os) (started : os.Started) (H : Type) (enc : TypeId × Value → H) :
  ReturnsInHanded {} Tryz.checked os 4 .any (Rows.fnRootsSpec.pre6 enc Tryz.prog Tryz.f4 Rows.fnRootsRow.domain false) (Rows.fnRootsSpec.post enc Tryz.prog Tryz.f4 false true false false) := by
 refine returnsInHanded_of_change (C := Tryz.checked) own started (by kernel_rfl) Tryz.func4
  (ChangeSpec.witness6 (enc := enc) (C := Tryz.checked) false ⟨#[], #[.slice none 0 0], []⟩ 8 (by kernel_rfl) (by kernel_rfl) (by kernel_rfl) (by kernel_rfl)) ?_
 intro W base args ds gs before hval0 hW hcnd _
 have hval : ∀ (j : Nat) t v, Tryz.f4.params[j]? = some t → args[j]? = some v → Value.okWide Tryz.prog W .any base t v := hval0
 have hW' := hW
 obtain ⟨p, q, hA0, hV, rfl, hfz, hnd⟩ := hW
 have hA : DataW.TrodAll enc Tryz.prog W 0 (fun _ => true) true Tryz.f4.params.toList args.toList ds p := hA0
 rw [Tryz.params4] at hA hval
 obtain ⟨v0, vs0, d0, ds0, p0, q0, hargs, rfl, rfl, h0, r0⟩ := trodAll_cons hA
 obtain ⟨rfl, rfl, rfl⟩ := trodAll_nil r0
 obtain rfl : args = #[v0] := by cases args; simp_all
 have key : ∃ (A : Option Addr) (c : Nat) (zs : List UInt8), v0 = .slice A zs.length c ∧ Rd W W.heap.size A (bytesV zs) ∧ zs.length ≤ 9223372036854775807 := by
  obtain ⟨fuel, h0⟩ := h0
  rw [slice_cells Tryz.underlying22 (hval 0 22 v0 rfl rfl)] at h0
  obtain ⟨A, c, zs, e, hr, hn⟩ := rd_bytes h0
  injection e with e
  exact ⟨A, c, zs, e, hr, hn⟩
 obtain ⟨A, c, zs, rfl, hr, hn⟩ := key
 refine (walk zs A c W hr hn).mono fun e W' ⟨he, hb⟩ => ?_
 subst he
 exact ⟨_, rfl, post_of_law laidOut rfl Tryz.underlying4 rfl (by kernel_rfl) (fun ds hds => by
  match ds, hds with
  | [d], _ => exact ⟨rfl, rfl, rfl⟩) hW' hb⟩
theorem over : Rows.fnRootsRow.holds Tryz.pinned (OpenSpec.ofChange Rows.fnRootsSpec) :=
 OpenClaim.holds_of_wide 4 Tryz.f4 rfl rfl rfl rfl rfl rfl rfl ⟨rfl, rfl, rfl, rfl, rfl⟩ rfl rfl rfl rfl rfl (by kernel_rfl) Tryz.func4 (by kernel_rfl)
  (of_decide_eq_true (by kernel_rfl)) (by unfold Func.isWrapper; first | (rw [if_pos (by decide +kernel)]; kernel_rfl) | (rw [if_neg (by decide +kernel)]; exact ⟨rfl, rfl⟩))
  (fun os started H enc _ => lifted os started H enc)
theorem proved : Rows.FnRootsSaid := over
#print axioms proved
end Go.Proofs.YtkgoajnnkimkaaaGreat.fnRoots
