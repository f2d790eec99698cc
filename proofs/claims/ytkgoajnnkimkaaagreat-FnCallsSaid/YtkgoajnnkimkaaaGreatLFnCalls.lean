/- In drawn code who is called has its caller, what is called from a procedure calls nothing else, and sites are as many as there are: the law FnCalls returns true. No condition beyond the given statement's own. -/
import Derived.Test.YtkgoajnnkimkaaaGreatMFnCalls
import Derived.Test.YtkgoajnnkimkaaaGreatH26
import Derived.Test.YtkgoajnnkimkaaaGreatMFnCallsa
set_option linter.unusedSimpArgs false
set_option linter.unusedVariables false
namespace Go.Proofs.YtkgoajnnkimkaaaGreat.fnCalls
open Go.ChangeShapes Go.WideShapes Go.ChangeAt Go.RowKit

set_option maxRecDepth 100000 in
set_option maxHeartbeats 16000000 in
theorem walk (b : List UInt8) (A : Option Addr) (c : Nat) (w : World) (h : Rd w w.heap.size A (bytesV b)) (hn : b.length ≤ 9223372036854775807) :
    Calls Tryz.prog 7 #[.slice A b.length c] w fun e w' => e = .returned (.bool true) ∧ Below w.heap.size w w' := by
  by_cases hbig : 1048576 < b.length
  · have HB := Lib.hid (show Calls Tryz.prog 11 #[.slice A b.length c] w fun e w' => e = .returned (.bool true) ∧ w' = w from by
      have := big_any A c w hn
      rwa [decide_eq_true hbig] at this)
    clear hbig hn h
    go_enter Tryz.func7, Tryz.ntmps7
    go_wp2_with fail
    refine HB.out.mono ?_
    rintro e w' ⟨rfl, hw⟩
    obtain rfl : w = w' := hw.symm
    go_wp2_with fail
    go_ret
    exact ⟨rfl, Below.refl _ _⟩
  have HB := Lib.hid (show Calls Tryz.prog 11 #[.slice A b.length c] w fun e w' => e = .returned (.bool false) ∧ w' = w from by
    have := big_any A c w hn
    rwa [decide_eq_false hbig] at this)
  have hn' : b.length ≤ 1048576 := by omega
  have HD := Lib.hid (fun V (hV : Below w.heap.size w V) => drawCode_any b A c V (h.below hV).full hn')
  have HDP := Lib.hid (fun V (hV : Below w.heap.size w V) => (show Calls Tryz.prog 16 #[.slice A b.length c] V (NewNats V (placesF b)) from by
    have := drawPlaces_any b A c V (h.below hV).full hn'
    have e : ((placesF b).map fun (n : Nat) => iv (n : Int)) = nv (placesF b) := by simp [nv, natI]
    unfold NewNats
    rw [placesF_len, ← e]
    exact this))
  have hpl := placesF_len b
  generalize hpf : placesF b = pf at HDP hpl
  have hok : codeOkI (codeD (newD b)) = true := codeD_ok _
  have hcb : CdB 1048576 (codeD (newD b)) := codeD_b _
  clear hpf hbig hn hn' h
  generalize codeD (newD b) = k at HD hok hcb
  have hr := right_of hok
  have hins := hr.ins
  have hprc := hr.procs
  have HR := Lib.hid hr
  have HCA := Lib.hid (fun z (p : Nat) (hp : p < k.procs.length) W (hz : CodeAt W W.heap.size z k) => (show Calls Tryz.prog 55 #[.agg #[.slice z.gA k.globals.length z.gc, .slice z.lA k.locks.length z.lc, .slice z.pA k.procs.length z.pc, .slice z.eA k.entry.length z.ec, .slice z.iA k.ins.length z.ic], .int .i64 (p : Int)] W (NewNats W (listN k.procs.length (OpsP k 4 p))) from by
    have := callsOf_i z k (p : Int) W hz hcb (by omega)
    rwa [procL_yes hok hp] at this))
  have HCF := Lib.hid (fun z (p : Nat) (hp : p < k.procs.length) W (hz : CodeAt W W.heap.size z k) => (show Calls Tryz.prog 56 #[.agg #[.slice z.gA k.globals.length z.gc, .slice z.lA k.locks.length z.lc, .slice z.pA k.procs.length z.pc, .slice z.eA k.entry.length z.ec, .slice z.iA k.ins.length z.ic], .int .i64 (p : Int)] W (NewNats W (listN k.procs.length (FromP k p))) from by
    have := callsFrom_i z k (p : Int) W hz hcb (by omega)
    rwa [procL_yes hok hp] at this))
  have HCR := Lib.hid (fun z (p : Nat) (hp : p < k.procs.length) W (hz : CodeAt W W.heap.size z k) => (show Calls Tryz.prog 57 #[.agg #[.slice z.gA k.globals.length z.gc, .slice z.lA k.locks.length z.lc, .slice z.pA k.procs.length z.pc, .slice z.eA k.entry.length z.ec, .slice z.iA k.ins.length z.ic], .int .i64 (p : Int)] W (NewNats W (listN k.procs.length (fun q => OpsP k 4 q p))) from by
    have := callersOf_i z k (p : Int) W hz hcb (by omega)
    rwa [procL_yes hok hp] at this))
  have HSI := Lib.hid (fun z (p : Nat) (hp : p < k.procs.length) W (hz : CodeAt W W.heap.size z k) => (show Calls Tryz.prog 58 #[.agg #[.slice z.gA k.globals.length z.gc, .slice z.lA k.locks.length z.lc, .slice z.pA k.procs.length z.pc, .slice z.eA k.entry.length z.ec, .slice z.iA k.ins.length z.ic], .int .i64 (p : Int)] W (NewNats W (sitesL k 4 p (List.range k.procs.length))) from by
    have := sitesOf_i z k (p : Int) W hz hcb (by omega)
    rwa [procL_yes hok hp] at this))
  have HSS := Lib.hid (fun z (p : Nat) (hp : p < k.procs.length) W (hz : CodeAt W W.heap.size z k) => (show Calls Tryz.prog 63 #[.agg #[.slice z.gA k.globals.length z.gc, .slice z.lA k.locks.length z.lc, .slice z.pA k.procs.length z.pc, .slice z.eA k.entry.length z.ec, .slice z.iA k.ins.length z.ic], .int .i64 (p : Int)] W (NewNats W (sitesL k 4 p (List.range k.procs.length))) from by
    have := sitesOf_s z k (p : Int) W hz hcb (by omega)
    rwa [procL_yes hok hp] at this))
  have HPI := Lib.hid (fun z (p : Nat) (hp : p < k.procs.length) W (hz : CodeAt W W.heap.size z k) => (show Calls Tryz.prog 59 #[.agg #[.slice z.gA k.globals.length z.gc, .slice z.lA k.locks.length z.lc, .slice z.pA k.procs.length z.pc, .slice z.eA k.entry.length z.ec, .slice z.iA k.ins.length z.ic], .int .i64 (p : Int)] W (NewNats W (listN k.procs.length (OpsP k 5 p))) from by
    have := spawnsOf_i z k (p : Int) W hz hcb (by omega)
    rwa [procL_yes hok hp] at this))
  have HPS := Lib.hid (fun z (p : Nat) (hp : p < k.procs.length) W (hz : CodeAt W W.heap.size z k) => (show Calls Tryz.prog 60 #[.agg #[.slice z.gA k.globals.length z.gc, .slice z.lA k.locks.length z.lc, .slice z.pA k.procs.length z.pc, .slice z.eA k.entry.length z.ec, .slice z.iA k.ins.length z.ic], .int .i64 (p : Int)] W (NewNats W (listN k.procs.length (OpsP k 5 p))) from by
    have := spawnsOf_s z k (p : Int) W hz hcb (by omega)
    rwa [procL_yes hok hp] at this))
  have HTI := Lib.hid (fun z (p : Nat) (hp : p < k.procs.length) W (hz : CodeAt W W.heap.size z k) => (show Calls Tryz.prog 61 #[.agg #[.slice z.gA k.globals.length z.gc, .slice z.lA k.locks.length z.lc, .slice z.pA k.procs.length z.pc, .slice z.eA k.entry.length z.ec, .slice z.iA k.ins.length z.ic], .int .i64 (p : Int)] W (fun e w' => e = .returned (.bool ((retN k).testBit p)) ∧ Below W.heap.size W w') from by
    have := returns_i z k (p : Int) W hz hcb (by omega)
    rwa [procB_yes hok hp] at this))
  have HTS := Lib.hid (fun z (p : Nat) (hp : p < k.procs.length) W (hz : CodeAt W W.heap.size z k) => (show Calls Tryz.prog 62 #[.agg #[.slice z.gA k.globals.length z.gc, .slice z.lA k.locks.length z.lc, .slice z.pA k.procs.length z.pc, .slice z.eA k.entry.length z.ec, .slice z.iA k.ins.length z.ic], .int .i64 (p : Int)] W (fun e w' => e = .returned (.bool ((retN k).testBit p)) ∧ Below W.heap.size W w') from by
    have := returns_s z k (p : Int) W hz hcb (by omega)
    rwa [procB_yes hok hp] at this))
  have HLL := Lib.hid (fun (P : Nat → Prop) => (show (listN k.procs.length P).length ≤ 1099511627776 from Nat.le_trans (listN_len _ _) (by omega)))
  have HLS := Lib.hid (fun p => (show (sitesL k 4 p (List.range k.procs.length)).length ≤ 1099511627776 from by
    have h1 := sitesL_len k 4 p (List.range k.procs.length)
    have h2 : (List.range k.procs.length).length * k.ins.length ≤ 8 * 1500 := Nat.mul_le_mul (by simpa using hprc) hins
    omega))
  clear hok hcb
  go_enter Tryz.func7, Tryz.ntmps7
  go_wp2_with fail
  refine HB.out.mono ?_
  rintro e w' ⟨rfl, hw⟩
  obtain rfl : w = w' := hw.symm
  go_wp2_with fail
  refine (HD.out _ (Below.refl _ _)).mono ?_
  rintro e w1 ⟨v, rfl, hk1, hb1⟩
  have hk1' := (hk1.sub (Nat.le_refl _) high_low).full
  go_wp2_with fail
  have hbx1 := codeBox w1 v k
  generalize w1.alloc (.cells #[.slice v.gA k.globals.length v.gc, .slice v.lA k.locks.length v.lc, .slice v.pA k.procs.length v.pc, .slice v.eA k.entry.length v.ec, .slice v.iA k.ins.length v.ic] 28) = W1 at hbx1 ⊢
  have hlow1 := below_trans' hb1 hbx1.1
  have hkv := kAt_of hbx1
  have hck := (hk1'.below hbx1.1).full
  clear hk1 hk1' hb1 hbx1
  generalize w1.heap.size = gk at hkv ⊢
  refine (HD.out W1 hlow1).mono ?_
  rintro e w2 ⟨u, rfl, hk2, hb2⟩
  have hk2' := (hk2.sub (Nat.le_refl _) high_low).full
  go_wp2_with fail
  have hbx2 := codeBox w2 u k
  generalize w2.alloc (.cells #[.slice u.gA k.globals.length u.gc, .slice u.lA k.locks.length u.lc, .slice u.pA k.procs.length u.pc, .slice u.eA k.entry.length u.ec, .slice u.iA k.ins.length u.ic] 28) = W2 at hbx2 ⊢
  have hb12 := below_trans' hb2 hbx2.1
  have hlb : LB w k gk w2.heap.size v u W2 := ⟨below_trans' hlow1 hb12, hkv.to hb12, kAt_of hbx2, (hck.below hb12).full, (hk2'.below hbx2.1).full⟩
  clear hk2 hk2' hb2 hbx2 hb12 hlow1 hkv hck HB HD
  generalize w2.heap.size = gs at hlb ⊢
  have HLB := Lib.hid hlb
  clear hlb
  go_loopg [5, 6, 7, 8, 9, 10, 11] k.procs.length (fun l i y6 y7 y8 y9 y10 y11 wr => ∃ p : Nat, p ≤ k.procs.length ∧ l = k.procs.length - p ∧ i = .int .i64 p ∧ LB w k gk gs v u wr)
  case atStart => exact ⟨0, by omega, by omega, rfl, HLB.out⟩
  case round =>
    clear HLB
    obtain ⟨p, hp, rfl, rfl, hl⟩ := hrel
    have HL := Lib.hid hl
    clear hl
    obtain ⟨k0, k1, k2, k3, k4⟩ := HL.out.kk
    obtain ⟨s0, s1, s2, s3, s4⟩ := HL.out.ks
    by_cases hlt : p < k.procs.length
    · have y1 : (p : Int) < (k.procs.length : Int) := by omega
      have y2 : (0 : Int) ≤ (p : Int) := by omega
      go_wp2_with fail
      refine (HCA.out v p hlt _ HL.out.ck).mono ?_
      rintro e w2 ⟨A6, c6, rfl, ho2, hb2⟩
      have HL2 := Lib.hid ((HL.out.to hb2).ls.add (own_rd ho2))
      clear ho2 hb2 k0 k1 k2 k3 k4 s0 s1 s2 s3 s4 HL
      obtain ⟨k0, k1, k2, k3, k4⟩ := HL2.out.lb.kk
      go_wp2_with fail
      refine (HCF.out v p hlt _ HL2.out.lb.ck).mono ?_
      rintro e w3 ⟨A7, c7, rfl, ho3, hb3⟩
      have HLS3 := Lib.hid (show LS w k gk gs v u [(A6, listN k.procs.length (OpsP k 4 p)), (A7, listN k.procs.length (FromP k p))] w3 from ⟨HL2.out.lb.to hb3, fun p hp => by
        rcases List.mem_cons.1 hp with rfl | hp
        · exact ((HL2.out.rd (A6, listN k.procs.length (OpsP k 4 p)) (by simp)).below hb3).full
        · rw [List.mem_singleton.1 hp]; exact own_rd ho3⟩)
      clear ho3 hb3 k0 k1 k2 k3 k4 HL2
      go_wp2_with fail
      have hcl : (listN k.procs.length (OpsP k 4 p)).length ≤ k.procs.length := listN_len _ _
      go_loopg [8] (listN k.procs.length (OpsP k 4 p)).length (fun l i wr => ∃ j : Nat, j ≤ (listN k.procs.length (OpsP k 4 p)).length ∧ l = (listN k.procs.length (OpsP k 4 p)).length - j ∧ i = .int .i64 j ∧ LS w k gk gs v u [(A6, listN k.procs.length (OpsP k 4 p)), (A7, listN k.procs.length (FromP k p))] wr)
      case atStart => exact ⟨0, by omega, by omega, rfl, HLS3.out⟩
      case round =>
        clear HLS3
        obtain ⟨j, hj, rfl, rfl, hs4⟩ := hrel
        have HLS4 := Lib.hid hs4
        clear hs4
        by_cases hjl : j < (listN k.procs.length (OpsP k 4 p)).length
        · have z1 : (j : Int) < ((listN k.procs.length (OpsP k 4 p)).length : Int) := by omega
          have z2 : (0 : Int) ≤ (j : Int) := by omega
          obtain ⟨ad6, rfl⟩ := HLS4.out.some_ (A := A6) (xs := listN k.procs.length (OpsP k 4 p)) (by simp) (by omega)
          have hop := mem_listN.1 (List.getElem_mem hjl)
          have hnl := hop.1
          have hma : p ∈ listN k.procs.length (fun q => OpsP k 4 q (listN k.procs.length (OpsP k 4 p))[j]) := mem_listN.2 ⟨hlt, hop.2⟩
          have hmr : (listN k.procs.length (OpsP k 4 p))[j] ∈ listN k.procs.length (FromP k p) := mem_listN.2 ⟨hnl, from_call1 (Comes.refl _ _) hop.2 hnl⟩
          have hne := ops_sites HR.out (List.mem_range.2 hlt) hlt hop.2
          have hsz : (((sitesL k 4 (listN k.procs.length (OpsP k 4 p))[j] (List.range k.procs.length)).length : Int) == 0) = false := by simp; exact fun h => hne (by rw [h]; rfl)
          clear hop hne
          go_wp2_with fail
          refine wp_region_held_drew (S := fun w' => LS w k gk gs v u [(some ad6, listN k.procs.length (OpsP k 4 p)), (A7, listN k.procs.length (FromP k p))] w') (by kernel_rfl) (HLS4.out.drew) (fun hHeld => ?_)
          first | refine hs_ 0 ?_ | (refine hr_ 0 ?_ ?_ ?_; rotate_left; (intro W hW; obtain ⟨k0q, k1q, k2q, k3q, k4q⟩ := hW.lb.kk; go_simp; try with_reducible rfl))
          first | refine hs_ 1 ?_ | (refine hr_ 1 ?_ ?_ ?_; rotate_left; (intro W hW; go_simp; try with_reducible rfl))
          first | refine hs_ 2 ?_ | (refine hr_ 2 ?_ ?_ ?_; rotate_left; (intro W hW; go_simp; try with_reducible rfl))
          first | refine hs_ 3 ?_ | (refine hr_ 3 ?_ ?_ ?_; rotate_left; (intro W hW; go_simp; try with_reducible rfl))
          first | refine hs_ 4 ?_ | (refine hr_ 4 ?_ ?_ ?_; rotate_left; (intro W hW; have nq := hW.at_ (ad := ad6) (by simp) hjl; go_simp; try with_reducible rfl))
          first | refine hs_ 6 ?_ | (refine hr_ 6 ?_ ?_ ?_; rotate_left; (intro W hW; go_simp; try with_reducible rfl))
          refine ho_ 5 fun K hK => ?_
          go_simp
          refine (HCR.out v (listN k.procs.length (OpsP k 4 p))[j] hnl _ hHeld.lb.ck).mono ?_
          rintro e wq1 ⟨Aa, ca, rfl, ho1, hb1⟩
          have ra := own_rd ho1
          replace hHeld := hHeld.to hb1
          clear ho1 hb1
          refine hk_ hK (hHeld) fun hHeld => ?_
          clear hK K
          refine ho_ 7 fun K hK => ?_
          go_simp
          refine (hasInt_yes Aa ca _ p _ ra (HLL.out _) hma).mono ?_
          rintro e wq2 ⟨rfl, hb2⟩
          replace hHeld := hHeld.to hb2
          clear hb2
          clear ra
          refine hk_ hK (hHeld) fun hHeld => ?_
          clear hK K
          first | refine hs_ 8 ?_ | (refine hr_ 8 ?_ ?_ ?_; rotate_left; (intro W hW; go_simp; try with_reducible rfl))
          first | refine hs_ 9 ?_ | (refine hr_ 9 ?_ ?_ ?_; rotate_left; (intro W hW; go_simp; try with_reducible rfl))
          first | refine hs_ 10 ?_ | (refine hr_ 10 ?_ ?_ ?_; rotate_left; (intro W hW; go_simp; try with_reducible rfl))
          first | refine hs_ 11 ?_ | (refine hr_ 11 ?_ ?_ ?_; rotate_left; (intro W hW; go_simp; try with_reducible rfl))
          first | refine hs_ 12 ?_ | (refine hr_ 12 ?_ ?_ ?_; rotate_left; (intro W hW; go_simp; try with_reducible rfl))
          first | refine hs_ 13 ?_ | (refine hr_ 13 ?_ ?_ ?_; rotate_left; (intro W hW; go_simp; try with_reducible rfl))
          first | refine hs_ 14 ?_ | (refine hr_ 14 ?_ ?_ ?_; rotate_left; (intro W hW; have nq := hW.at_ (ad := ad6) (by simp) hjl; go_simp; try with_reducible rfl))
          refine ho_ 15 fun K hK => ?_
          go_simp
          refine (hasInt_yes A7 c7 _ (listN k.procs.length (OpsP k 4 p))[j] _ (hHeld.rd (A7, listN k.procs.length (FromP k p)) (by simp)) (HLL.out _) hmr).mono ?_
          rintro e wq3 ⟨rfl, hb3⟩
          replace hHeld := hHeld.to hb3
          clear hb3
          refine hk_ hK (hHeld) fun hHeld => ?_
          clear hK K
          first | refine hs_ 16 ?_ | (refine hr_ 16 ?_ ?_ ?_; rotate_left; (intro W hW; go_simp; try with_reducible rfl))
          first | refine hs_ 17 ?_ | (refine hr_ 17 ?_ ?_ ?_; rotate_left; (intro W hW; go_simp; try with_reducible rfl))
          first | refine hs_ 18 ?_ | (refine hr_ 18 ?_ ?_ ?_; rotate_left; (intro W hW; go_simp; try with_reducible rfl))
          first | refine hs_ 19 ?_ | (refine hr_ 19 ?_ ?_ ?_; rotate_left; (intro W hW; obtain ⟨k0q, k1q, k2q, k3q, k4q⟩ := hW.lb.kk; go_simp; try with_reducible rfl))
          first | refine hs_ 20 ?_ | (refine hr_ 20 ?_ ?_ ?_; rotate_left; (intro W hW; go_simp; try with_reducible rfl))
          first | refine hs_ 21 ?_ | (refine hr_ 21 ?_ ?_ ?_; rotate_left; (intro W hW; go_simp; try with_reducible rfl))
          first | refine hs_ 22 ?_ | (refine hr_ 22 ?_ ?_ ?_; rotate_left; (intro W hW; go_simp; try with_reducible rfl))
          first | refine hs_ 23 ?_ | (refine hr_ 23 ?_ ?_ ?_; rotate_left; (intro W hW; have nq := hW.at_ (ad := ad6) (by simp) hjl; go_simp; try with_reducible rfl))
          refine ho_ 24 fun K hK => ?_
          go_simp
          refine (HSI.out v (listN k.procs.length (OpsP k 4 p))[j] hnl _ hHeld.lb.ck).mono ?_
          rintro e wq4 ⟨Ab, cb, rfl, ho4, hb4⟩
          have rb := own_rd ho4
          replace hHeld := hHeld.to hb4
          clear ho4 hb4
          clear rb
          refine hk_ hK (hHeld) fun hHeld => ?_
          clear hK K
          first | refine hs_ 25 ?_ | (refine hr_ 25 ?_ ?_ ?_; rotate_left; (intro W hW; go_simp; try with_reducible rfl))
          first | refine hs_ 26 ?_ | (refine hr_ 26 ?_ ?_ ?_; rotate_left; (intro W hW; go_simp; try with_reducible rfl))
          first | refine hs_ 27 ?_ | (refine hr_ 27 ?_ ?_ ?_; rotate_left; (intro W hW; go_simp; try with_reducible rfl))
          refine wpAnyH_done (by kernel_rfl) ?_ _
          have HLS9 := Lib.hid hHeld
          clear hHeld
          go_wp2_with fail
          go_roundg ((listN k.procs.length (OpsP k 4 p)).length - (j + 1))
          case measure => omega
          case rel => exact ⟨j + 1, by omega, rfl, by go_num, HLS9.out⟩
        · obtain rfl : j = (listN k.procs.length (OpsP k 4 p)).length := by omega
          have HLS4 := Lib.hid HLS4.out
          go_wp2_with fail
          have hfl : (listN k.procs.length (FromP k p)).length ≤ k.procs.length := listN_len _ _
          go_loopg [9, 10, 11] (listN k.procs.length (FromP k p)).length (fun l i y10 y11 wr => ∃ j : Nat, j ≤ (listN k.procs.length (FromP k p)).length ∧ l = (listN k.procs.length (FromP k p)).length - j ∧ i = .int .i64 j ∧ LS w k gk gs v u [(A6, listN k.procs.length (OpsP k 4 p)), (A7, listN k.procs.length (FromP k p))] wr)
          case atStart => exact ⟨0, by omega, by omega, rfl, HLS4.out⟩
          case round =>
            clear HLS4
            obtain ⟨i, hi, rfl, rfl, hs5⟩ := hrel
            have HLS5 := Lib.hid hs5
            clear hs5
            by_cases hil : i < (listN k.procs.length (FromP k p)).length
            · have z1 : (i : Int) < ((listN k.procs.length (FromP k p)).length : Int) := by omega
              have z2 : (0 : Int) ≤ (i : Int) := by omega
              obtain ⟨ad7, rfl⟩ := HLS5.out.some_ (A := A7) (xs := listN k.procs.length (FromP k p)) (by simp) (by omega)
              have hqq := mem_listN.1 (List.getElem_mem hil)
              have hql := hqq.1
              have hqf := hqq.2
              clear hqq
              go_wp2_with fail
              refine wp_region_held_drew (S := fun w' => LS w k gk gs v u [(A6, listN k.procs.length (OpsP k 4 p)), (some ad7, listN k.procs.length (FromP k p))] w') (by kernel_rfl) (HLS5.out.drew) (fun hHeld => ?_)
              first | refine hs_ 0 ?_ | (refine hr_ 0 ?_ ?_ ?_; rotate_left; (intro W hW; obtain ⟨k0q, k1q, k2q, k3q, k4q⟩ := hW.lb.kk; go_simp; try with_reducible rfl))
              first | refine hs_ 1 ?_ | (refine hr_ 1 ?_ ?_ ?_; rotate_left; (intro W hW; go_simp; try with_reducible rfl))
              first | refine hs_ 2 ?_ | (refine hr_ 2 ?_ ?_ ?_; rotate_left; (intro W hW; go_simp; try with_reducible rfl))
              first | refine hs_ 3 ?_ | (refine hr_ 3 ?_ ?_ ?_; rotate_left; (intro W hW; go_simp; try with_reducible rfl))
              first | refine hs_ 4 ?_ | (refine hr_ 4 ?_ ?_ ?_; rotate_left; (intro W hW; have nq := hW.at_ (ad := ad7) (by simp) hil; go_simp; try with_reducible rfl))
              refine ho_ 5 fun K hK => ?_
              go_simp
              refine (HCA.out v (listN k.procs.length (FromP k p))[i] hql _ hHeld.lb.ck).mono ?_
              rintro e wq5 ⟨Am, cm, rfl, ho5, hb5⟩
              have rm := own_rd ho5
              replace hHeld := hHeld.to hb5
              clear ho5 hb5
              refine hk_ hK (hHeld) fun hHeld => ?_
              clear hK K
              first | refine hs_ 6 ?_ | (refine hr_ 6 ?_ ?_ ?_; rotate_left; (intro W hW; go_simp; try with_reducible rfl))
              refine wpAnyH_done (by kernel_rfl) ?_ _
              have HLS6 := Lib.hid (hHeld.add rm)
              clear hHeld rm
              go_wp2_with fail
              have hml : (listN k.procs.length (OpsP k 4 (listN k.procs.length (FromP k p))[i])).length ≤ k.procs.length := listN_len _ _
              go_loopg [11] (listN k.procs.length (OpsP k 4 (listN k.procs.length (FromP k p))[i])).length (fun l2 i2 wr => ∃ j : Nat, j ≤ (listN k.procs.length (OpsP k 4 (listN k.procs.length (FromP k p))[i])).length ∧ l2 = (listN k.procs.length (OpsP k 4 (listN k.procs.length (FromP k p))[i])).length - j ∧ i2 = .int .i64 j ∧ LS w k gk gs v u [(Am, listN k.procs.length (OpsP k 4 (listN k.procs.length (FromP k p))[i])), (A6, listN k.procs.length (OpsP k 4 p)), (some ad7, listN k.procs.length (FromP k p))] wr)
              case atStart => exact ⟨0, by omega, by omega, rfl, HLS6.out⟩
              case round =>
                clear HLS6
                obtain ⟨j, hj, rfl, rfl, hs7⟩ := hrel
                have HLS7 := Lib.hid hs7
                clear hs7
                by_cases hjl : j < (listN k.procs.length (OpsP k 4 (listN k.procs.length (FromP k p))[i])).length
                · have z1 : (j : Int) < ((listN k.procs.length (OpsP k 4 (listN k.procs.length (FromP k p))[i])).length : Int) := by omega
                  have z2 : (0 : Int) ≤ (j : Int) := by omega
                  obtain ⟨adm, rfl⟩ := HLS7.out.some_ (A := Am) (xs := listN k.procs.length (OpsP k 4 (listN k.procs.length (FromP k p))[i])) (by simp) (by omega)
                  have nq := HLS7.out.at_ (ad := adm) (by simp) hjl
                  have hop := mem_listN.1 (List.getElem_mem hjl)
                  have hmf : (listN k.procs.length (OpsP k 4 (listN k.procs.length (FromP k p))[i]))[j] ∈ listN k.procs.length (FromP k p) := mem_listN.2 ⟨hop.1, from_call1 hqf hop.2 hop.1⟩
                  clear hop
                  go_wp2_with fail
                  refine (hasInt_yes (some ad7) c7 _ (listN k.procs.length (OpsP k 4 (listN k.procs.length (FromP k p))[i]))[j] _ (HLS7.out.rd (some ad7, listN k.procs.length (FromP k p)) (by simp)) (HLL.out _) hmf).mono ?_
                  rintro e w8 ⟨rfl, hb8⟩
                  have HLS8 := Lib.hid (HLS7.out.to hb8)
                  clear hb8 HLS7 nq
                  go_wp2_with fail
                  go_roundg ((listN k.procs.length (OpsP k 4 (listN k.procs.length (FromP k p))[i])).length - (j + 1))
                  case measure => omega
                  case rel => exact ⟨j + 1, by omega, rfl, by go_num, HLS8.out⟩
                · obtain rfl : j = (listN k.procs.length (OpsP k 4 (listN k.procs.length (FromP k p))[i])).length := by omega
                  have HLS8 := Lib.hid (show LS w k gk gs v u [(A6, listN k.procs.length (OpsP k 4 p)), (some ad7, listN k.procs.length (FromP k p))] _ from ⟨HLS7.out.lb, fun p hp => HLS7.out.rd p (by simp at hp ⊢; exact .inr hp)⟩)
                  clear HLS7
                  go_wp2_with fail
                  go_roundg ((listN k.procs.length (FromP k p)).length - (i + 1))
                  case measure => omega
                  case rel => exact ⟨i + 1, by omega, rfl, by go_num, HLS8.out⟩
            · obtain rfl : i = (listN k.procs.length (FromP k p)).length := by omega
              have hmp : p ∈ listN k.procs.length (FromP k p) := mem_listN.2 ⟨hlt, Comes.refl _ _⟩
              go_wp2_with fail
              refine wp_region_held_drew (S := fun w' => LS w k gk gs v u [(A6, listN k.procs.length (OpsP k 4 p)), (A7, listN k.procs.length (FromP k p))] w') (by kernel_rfl) (HLS5.out.drew) (fun hHeld => ?_)
              first | refine hs_ 0 ?_ | (refine hr_ 0 ?_ ?_ ?_; rotate_left; (intro W hW; go_simp; try with_reducible rfl))
              first | refine hs_ 1 ?_ | (refine hr_ 1 ?_ ?_ ?_; rotate_left; (intro W hW; go_simp; try with_reducible rfl))
              refine ho_ 2 fun K hK => ?_
              go_simp
              refine (hasInt_yes A7 c7 _ p _ (hHeld.rd (A7, listN k.procs.length (FromP k p)) (by simp)) (HLL.out _) hmp).mono ?_
              rintro e wq6 ⟨rfl, hb6⟩
              replace hHeld := hHeld.to hb6
              clear hb6
              refine hk_ hK (hHeld) fun hHeld => ?_
              clear hK K
              first | refine hs_ 3 ?_ | (refine hr_ 3 ?_ ?_ ?_; rotate_left; (intro W hW; go_simp; try with_reducible rfl))
              first | refine hs_ 4 ?_ | (refine hr_ 4 ?_ ?_ ?_; rotate_left; (intro W hW; go_simp; try with_reducible rfl))
              first | refine hs_ 5 ?_ | (refine hr_ 5 ?_ ?_ ?_; rotate_left; (intro W hW; obtain ⟨k0q, k1q, k2q, k3q, k4q⟩ := hW.lb.kk; go_simp; try with_reducible rfl))
              first | refine hs_ 6 ?_ | (refine hr_ 6 ?_ ?_ ?_; rotate_left; (intro W hW; go_simp; try with_reducible rfl))
              first | refine hs_ 8 ?_ | (refine hr_ 8 ?_ ?_ ?_; rotate_left; (intro W hW; obtain ⟨s0q, s1q, s2q, s3q, s4q⟩ := hW.lb.ks; go_simp; try with_reducible rfl))
              first | refine hs_ 9 ?_ | (refine hr_ 9 ?_ ?_ ?_; rotate_left; (intro W hW; go_simp; try with_reducible rfl))
              refine ho_ 7 fun K hK => ?_
              go_simp
              refine (HPI.out v p hlt _ hHeld.lb.ck).mono ?_
              rintro e wq7 ⟨Aa, ca, rfl, ho7, hb7⟩
              have ra := own_rd ho7
              replace hHeld := hHeld.to hb7
              clear ho7 hb7
              refine hk_ hK (hHeld) fun hHeld => ?_
              clear hK K
              refine ho_ 10 fun K hK => ?_
              go_simp
              refine (HPS.out u p hlt _ hHeld.lb.cs).mono ?_
              rintro e wq8 ⟨Ab, cb, rfl, ho8, hb8⟩
              have rb := own_rd ho8
              replace ra := ra.below hb8
              replace hHeld := hHeld.to hb8
              clear ho8 hb8
              refine hk_ hK (hHeld) fun hHeld => ?_
              clear hK K
              refine ho_ 11 fun K hK => ?_
              go_simp
              refine (sameInts_same Aa Ab ca cb _ _ ra rb (HLL.out _)).mono ?_
              rintro e wq9 ⟨rfl, hb9⟩
              replace hHeld := hHeld.to hb9
              clear hb9
              clear ra rb
              refine hk_ hK (hHeld) fun hHeld => ?_
              clear hK K
              first | refine hs_ 12 ?_ | (refine hr_ 12 ?_ ?_ ?_; rotate_left; (intro W hW; go_simp; try with_reducible rfl))
              first | refine hs_ 13 ?_ | (refine hr_ 13 ?_ ?_ ?_; rotate_left; (intro W hW; go_simp; try with_reducible rfl))
              first | refine hs_ 14 ?_ | (refine hr_ 14 ?_ ?_ ?_; rotate_left; (intro W hW; go_simp; try with_reducible rfl))
              first | refine hs_ 15 ?_ | (refine hr_ 15 ?_ ?_ ?_; rotate_left; (intro W hW; obtain ⟨k0q, k1q, k2q, k3q, k4q⟩ := hW.lb.kk; go_simp; try with_reducible rfl))
              first | refine hs_ 16 ?_ | (refine hr_ 16 ?_ ?_ ?_; rotate_left; (intro W hW; go_simp; try with_reducible rfl))
              first | refine hs_ 18 ?_ | (refine hr_ 18 ?_ ?_ ?_; rotate_left; (intro W hW; obtain ⟨s0q, s1q, s2q, s3q, s4q⟩ := hW.lb.ks; go_simp; try with_reducible rfl))
              first | refine hs_ 19 ?_ | (refine hr_ 19 ?_ ?_ ?_; rotate_left; (intro W hW; go_simp; try with_reducible rfl))
              refine ho_ 17 fun K hK => ?_
              go_simp
              refine (HTI.out v p hlt _ hHeld.lb.ck).mono ?_
              rintro e wq10 ⟨rfl, hb10⟩
              replace hHeld := hHeld.to hb10
              clear hb10
              refine hk_ hK (hHeld) fun hHeld => ?_
              clear hK K
              refine ho_ 20 fun K hK => ?_
              go_simp
              refine (HTS.out u p hlt _ hHeld.lb.cs).mono ?_
              rintro e wq11 ⟨rfl, hb11⟩
              replace hHeld := hHeld.to hb11
              clear hb11
              refine hk_ hK (hHeld) fun hHeld => ?_
              clear hK K
              first | refine hs_ 21 ?_ | (refine hr_ 21 ?_ ?_ ?_; rotate_left; (intro W hW; go_simp; try with_reducible rfl))
              first | refine hs_ 22 ?_ | (refine hr_ 22 ?_ ?_ ?_; rotate_left; (intro W hW; go_simp; try with_reducible rfl))
              first | refine hs_ 23 ?_ | (refine hr_ 23 ?_ ?_ ?_; rotate_left; (intro W hW; go_simp; try with_reducible rfl))
              first | refine hs_ 24 ?_ | (refine hr_ 24 ?_ ?_ ?_; rotate_left; (intro W hW; obtain ⟨k0q, k1q, k2q, k3q, k4q⟩ := hW.lb.kk; go_simp; try with_reducible rfl))
              first | refine hs_ 25 ?_ | (refine hr_ 25 ?_ ?_ ?_; rotate_left; (intro W hW; go_simp; try with_reducible rfl))
              first | refine hs_ 27 ?_ | (refine hr_ 27 ?_ ?_ ?_; rotate_left; (intro W hW; obtain ⟨s0q, s1q, s2q, s3q, s4q⟩ := hW.lb.ks; go_simp; try with_reducible rfl))
              first | refine hs_ 28 ?_ | (refine hr_ 28 ?_ ?_ ?_; rotate_left; (intro W hW; go_simp; try with_reducible rfl))
              refine ho_ 26 fun K hK => ?_
              go_simp
              refine (HSI.out v p hlt _ hHeld.lb.ck).mono ?_
              rintro e wq12 ⟨Ac, cc, rfl, ho12, hb12⟩
              have rc := own_rd ho12
              replace hHeld := hHeld.to hb12
              clear ho12 hb12
              refine hk_ hK (hHeld) fun hHeld => ?_
              clear hK K
              refine ho_ 29 fun K hK => ?_
              go_simp
              refine (HSS.out u p hlt _ hHeld.lb.cs).mono ?_
              rintro e wq13 ⟨Ad, cd, rfl, ho13, hb13⟩
              have rd := own_rd ho13
              replace rc := rc.below hb13
              replace hHeld := hHeld.to hb13
              clear ho13 hb13
              refine hk_ hK (hHeld) fun hHeld => ?_
              clear hK K
              refine ho_ 30 fun K hK => ?_
              go_simp
              refine (sameInts_same Ac Ad cc cd _ _ rc rd (HLS.out _)).mono ?_
              rintro e wq14 ⟨rfl, hb14⟩
              replace hHeld := hHeld.to hb14
              clear hb14
              clear rc rd
              refine hk_ hK (hHeld) fun hHeld => ?_
              clear hK K
              first | refine hs_ 31 ?_ | (refine hr_ 31 ?_ ?_ ?_; rotate_left; (intro W hW; go_simp; try with_reducible rfl))
              first | refine hs_ 32 ?_ | (refine hr_ 32 ?_ ?_ ?_; rotate_left; (intro W hW; go_simp; try with_reducible rfl))
              refine wpAnyH_done (by kernel_rfl) ?_ _
              have HLS9 := Lib.hid hHeld
              clear hHeld
              go_wp2_with fail
              go_roundg (k.procs.length - (p + 1))
              case measure => omega
              case rel => exact ⟨p + 1, by omega, rfl, by go_num, HLS9.out.lb⟩
    · obtain rfl : p = k.procs.length := by omega
      go_wp2_with fail
      go_ret
      exact ⟨rfl, HL.out.low⟩

set_option maxRecDepth 100000 in
theorem lifted (os : Os) (started : os.Started) (H : Type) (enc : TypeId × Value → H) :
    ReturnsInHanded {} Tryz.checked os 7 .any (Rows.fnCallsSpec.pre6 enc Tryz.prog Tryz.f7 Rows.fnCallsRow.domain false) (Rows.fnCallsSpec.post enc Tryz.prog Tryz.f7 false true false false) := by
  refine returnsInHanded_of_change (C := Tryz.checked) own started (by kernel_rfl) Tryz.func7
    (ChangeSpec.witness6 (enc := enc) (C := Tryz.checked) false ⟨#[], #[.slice none 0 0], []⟩ 8 (by kernel_rfl) (by kernel_rfl) (by kernel_rfl) (by kernel_rfl)) ?_
  intro W base args ds gs before hval0 hW hcnd _
  have hval : ∀ (j : Nat) t v, Tryz.f7.params[j]? = some t → args[j]? = some v → Value.okWide Tryz.prog W .any base t v := hval0
  have hW' := hW
  obtain ⟨p, q, hA0, hV, rfl, hfz, hnd⟩ := hW
  have hA : DataW.TrodAll enc Tryz.prog W 0 (fun _ => true) true Tryz.f7.params.toList args.toList ds p := hA0
  rw [Tryz.params7] at hA hval
  obtain ⟨v0, vs0, d0, ds0, p0, q0, hargs, rfl, rfl, h0, r0⟩ := trodAll_cons hA
  obtain ⟨rfl, rfl, rfl⟩ := trodAll_nil r0
  obtain rfl : args = #[v0] := by cases args; simp_all
  have key : ∃ (A : Option Addr) (c : Nat) (zs : List UInt8), v0 = .slice A zs.length c ∧ Rd W W.heap.size A (bytesV zs) ∧ zs.length ≤ 9223372036854775807 := by
    obtain ⟨fuel, h0⟩ := h0
    rw [slice_cells Tryz.underlying22 (hval 0 22 v0 rfl rfl)] at h0
    obtain ⟨A, c, zs, e, hr, hn⟩ := rd_bytes h0
    injection e with e
    exact ⟨A, c, zs, e, hr, hn⟩
  obtain ⟨A, c, zs, rfl, hr, hn⟩ := key
  refine (walk zs A c W hr hn).mono fun e W' ⟨he, hb⟩ => ?_
  subst he
  exact ⟨_, rfl, post_of_law laidOut rfl Tryz.underlying4 rfl (by kernel_rfl) (fun ds hds => by
    match ds, hds with
    | [d], _ => exact ⟨rfl, rfl, rfl⟩) hW' hb⟩

theorem over : Rows.fnCallsRow.holds Tryz.pinned (OpenSpec.ofChange Rows.fnCallsSpec) :=
  OpenClaim.holds_of_wide 7 Tryz.f7 rfl rfl rfl rfl rfl rfl rfl ⟨rfl, rfl, rfl, rfl, rfl⟩ rfl rfl rfl rfl rfl (by kernel_rfl) Tryz.func7 (by kernel_rfl)
    (of_decide_eq_true (by kernel_rfl)) (by unfold Func.isWrapper; first | (rw [if_pos (by decide +kernel)]; kernel_rfl) | (rw [if_neg (by decide +kernel)]; exact ⟨rfl, rfl⟩))
    (fun os started H enc _ => lifted os started H enc)

theorem proved : Rows.FnCallsSaid := over
#print axioms proved
end Go.Proofs.YtkgoajnnkimkaaaGreat.fnCalls
