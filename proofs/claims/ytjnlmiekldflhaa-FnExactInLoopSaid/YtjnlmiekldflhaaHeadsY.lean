/- Contract of the reference's l08Heads, whole. -/
import Derived.Test.YtjnlmiekldflhaaHeads
set_option linter.unusedSimpArgs false
set_option linter.unusedVariables false
namespace Go.Proofs.Ytjnlmiekldflhaa
open Go.ChangeShapes Go.WideShapes Go.ChangeAt Go.RowKit

theorem namesB_parts {k : Cd} (h : namesB k = true) : areNamesB k.globals 6 = true ∧ areNamesB k.locks 6 = true ∧ areNamesB k.procs 8 = true ∧ twiceB k.globals = false ∧ twiceB k.locks = false ∧ twiceB k.procs = false ∧ mainS ∈ k.procs := by
  simp only [namesB, Bool.and_eq_true, Bool.not_eq_true', decide_eq_true_eq] at h
  exact ⟨h.1, h.2.1, h.2.2.1, h.2.2.2.1, h.2.2.2.2.1, h.2.2.2.2.2.1, h.2.2.2.2.2.2⟩

set_option maxHeartbeats 8000000 in
theorem l08Heads_yes {B L : Nat} (v : CV) (k : Cd) (w : World) (hk : CodeAt w B v k) (hb : CdB L k) (hL : L ≤ 1099511627776) (hnm : namesB k = true) (h8 : k.entry.length = k.procs.length) (h9 : k.ins.length ≤ 1500) :
    Calls Try.prog 108 #[.agg #[.slice v.gA k.globals.length v.gc, .slice v.lA k.locks.length v.lc, .slice v.pA k.procs.length v.pc, .slice v.eA k.entry.length v.ec, .slice v.iA k.ins.length v.ic]] w fun e w' => e = .returned (.bool (headsB k)) ∧ Below w.heap.size w w' := by
  have hgS : ∀ s ∈ k.globals, s.size ≤ 1099511627776 := fun s hs => by have := hb.globalsS s hs; omega
  have hlS : ∀ s ∈ k.locks, s.size ≤ 1099511627776 := fun s hs => by have := hb.locksS s hs; omega
  have hpS : ∀ s ∈ k.procs, s.size ≤ 1099511627776 := fun s hs => by have := hb.procsS s hs; omega
  have n1 := hb.globals
  have n2 := hb.locks
  have n3 := hb.procs
  have n4 := hb.entry
  have n5 := hb.ins
  have i1 := hk.gl
  have i2 := hk.ll
  have i3 := hk.pl
  have hk := hk.full
  obtain ⟨y1, y2, y3, y4, y5, y6, y7⟩ := namesB_parts hnm
  have HG := Lib.hid (fun W (h : Rd W w.heap.size v.gA (k.globals.map sv)) => l05Names_any v.gA v.gc k.globals 6 W h (by omega) (by omega) hgS)
  have HLk := Lib.hid (fun W (h : Rd W w.heap.size v.lA (k.locks.map sv)) => l05Names_any v.lA v.lc k.locks 6 W h (by omega) (by omega) hlS)
  have HP := Lib.hid (fun W (h : Rd W w.heap.size v.pA (k.procs.map sv)) => l05Names_any v.pA v.pc k.procs 8 W h (by omega) (by omega) hpS)
  have HG2 := Lib.hid (fun W (h : Rd W w.heap.size v.gA (k.globals.map sv)) => l07Twice_any v.gA v.gc k.globals W h (by omega) i1)
  have HL2 := Lib.hid (fun W (h : Rd W w.heap.size v.lA (k.locks.map sv)) => l07Twice_any v.lA v.lc k.locks W h (by omega) i2)
  have HP2 := Lib.hid (fun W (h : Rd W w.heap.size v.pA (k.procs.map sv)) => l07Twice_any v.pA v.pc k.procs W h (by omega) i3)
  have HP3 := Lib.hid (fun W (h : Rd W w.heap.size v.pA (k.procs.map sv)) => placeOf_s v.pA v.pc k.procs mainS W h (by omega))
  have hpm : decide (placeOf k.procs mainS < 0) = false := by rw [placeOf, if_pos y7]; simp
  rw [y1] at HG
  rw [y2] at HLk
  rw [y3] at HP
  rw [y4] at HG2
  rw [y5] at HL2
  rw [y6] at HP2
  generalize placeOf k.procs mainS = pm at HP3 hpm
  have HN := Lib.hid (show headsB k = ((List.range k.entry.length).all (riseB k) && (List.range k.ins.length).all (endB k)) from by rw [headsB, hnm, decide_eq_true h8, decide_eq_true h9]; rfl)
  have fin : ∀ (y : Bool) w', y = headsB k → Below w.heap.size w w' → Ending.returned (.bool y) = .returned (.bool (headsB k)) ∧ Below w.heap.size w w' := fun y w' h1 h2 => ⟨by rw [h1], h2⟩
  have hel : 1 ≤ k.entry.length := by rw [h8]; exact names_proc hnm
  have h8' : (((k.entry.length : Nat) : Int) != (k.procs.length : Int)) = false := by rw [h8]; simp
  have h9' : decide ((1500 : Int) < (k.ins.length : Int)) = false := by simp; omega
  have H8 := Lib.hid h8
  have HCB := Lib.hid hb
  have HEF := Lib.hid hb.entryF
  clear hgS hlS hpS hb hnm y1 y2 y3 y4 y5 y6 y7 h8
  have hbx := codeBox w v k
  go_enter Try.func108, Try.ntmps108
  go_wp2_with fail
  generalize w.alloc (.cells #[.slice v.gA k.globals.length v.gc, .slice v.lA k.locks.length v.lc, .slice v.pA k.procs.length v.pc, .slice v.eA k.entry.length v.ec, .slice v.iA k.ins.length v.ic] 33) = W at hbx ⊢
  obtain ⟨hb0, hs0, b0, b1, b2, b3, b4⟩ := id hbx
  have hkw := hk.below hb0
  have hg := hkw.g
  have hl := hkw.l
  have hp := hkw.p
  refine (HG.out _ hg).mono ?_
  rintro e w' ⟨rfl, rfl⟩
  go_wp2_with fail
  refine (HLk.out _ hl).mono ?_
  rintro e w' ⟨rfl, rfl⟩
  go_wp2_with fail
  refine (HP.out _ hp).mono ?_
  rintro e w' ⟨rfl, rfl⟩
  go_wp2_with fail
  refine (HG2.out _ hg).mono ?_
  rintro e w4 ⟨rfl, hd4⟩
  obtain ⟨hb04, hs4, c0, c1, c2, c3, c4⟩ := id (hbx.to (hd4.below _))
  go_wp2_with fail
  refine (HL2.out _ (hd4.rd hl)).mono ?_
  rintro e w5 ⟨rfl, hd5⟩
  have hd05 := hd4.trans hd5
  obtain ⟨hb05, hs5, d0, d1, d2, d3, d4⟩ := id (hbx.to (hd05.below _))
  go_wp2_with fail
  refine (HP2.out _ (hd05.rd hp)).mono ?_
  rintro e w6 ⟨rfl, hd6⟩
  have hd06 := hd05.trans hd6
  obtain ⟨hb06, hs6, e0, e1, e2, e3, e4⟩ := id (hbx.to (hd06.below _))
  go_wp2_with fail
  refine (HP3.out _ (hd06.rd hp)).mono ?_
  rintro e w' ⟨rfl, rfl⟩
  have hbx6 := hbx.to (hd06.below _)
  clear hd06 hd05 hd6 hd5 hd4 hbx b0 b1 b2 b3 b4 c0 c1 c2 c3 c4 d0 d1 d2 d3 d4 hb04 hs4 hb05 hs5 hkw hg hl hp
  go_wp2_with fail
  go_loopw [3] (fun i wr => ∃ p : Nat, p ≤ k.entry.length ∧ i = .int .i64 p ∧ (List.range p).all (riseB k) = true ∧ Drew w6 wr) (fun i _ => k.entry.length - (intOf i).toNat)
  case atStart => exact ⟨0, by omega, rfl, rfl, Drew.refl _⟩
  case round =>
    obtain ⟨p, hp, rfl, hall, hq⟩ := hrel
    have HALL := Lib.hid hall
    clear hall
    have hbxr := hbx6.to (hq.below _)
    obtain ⟨hb0r, hsr, r0, r1, r2, r3, r4⟩ := id hbxr
    by_cases hlt : p < k.entry.length
    · have hkr := hk.below hb0r
      obtain ⟨ae, ee, hbe, hce⟩ := hkr.e.int hlt
      have hbe' : (ae.add p).block < wr.heap.size := by rw [block_of_add]; omega
      have hfit := HEF.out _ (List.getElem_mem hlt)
      unfold Fits at hfit
      rw [← entryAt_eq k p hlt] at hce hfit
      have g1 : (0 : Int) ≤ (p : Int) := by omega
      have g2 : (p : Int) < (k.entry.length : Int) := by omega
      have HEE := Lib.hid ee
      cases p with
      | zero =>
        have hce0 : wr.cell? ae = some (.int .i64 (entryAt k 0)) := by rw [← hce]; rfl
        have g3 : (0 : Int) < (k.entry.length : Int) := by omega
        have HR := Lib.hid (show riseB k 0 = (decide (entryAt k 0 = 0) && decide (entryAt k 0 < k.ins.length)) from rfl)
        generalize entryAt k 0 = E at *
        rw [ee] at r3 ⊢
        clear ee
        by_cases hE : E = 0
        · subst hE
          by_cases hn0 : k.ins = []
          · have HR2 := Lib.hid (show riseB k 0 = false from by rw [HR.out, hn0]; rfl)
            go_wp2_with fail
            go_quiet (fail)
            go_wp2_with fail
            go_ret
            exact fin _ _ (by rw [HN.out, all_range_false hlt HR2.out]; rfl) (below_drewN hb0r _)
          · have HR2 := Lib.hid (show riseB k 0 = true from by
              have : 0 < k.ins.length := List.length_pos_iff.2 hn0
              rw [HR.out, decide_eq_true (show (0 : Int) < k.ins.length from by omega)]; rfl)
            go_wp2_with fail
            go_quiet (fail)
            go_wp2_with fail
            go_roundw
            case rel => exact ⟨1, by omega, rfl, by rw [all_range_succ, HALL.out, HR2.out]; rfl, hq.more _⟩
            case measure => simp [intOf]; omega
        · have hE' : (E != 0) = true := by simpa using hE
          have HR2 := Lib.hid (show riseB k 0 = false from by rw [HR.out, decide_eq_false hE]; rfl)
          go_wp2_with fail
          go_quiet (fail)
          go_wp2_with fail
          go_ret
          exact fin _ _ (by rw [HN.out, all_range_false hlt HR2.out]; rfl) (below_drewN hb0r _)
      | succ p =>
        have hlp : p < k.entry.length := by omega
        obtain ⟨ae', ee', hbe2, hce2⟩ := hkr.e.int hlp
        obtain rfl : ae = ae' := by rw [ee] at ee'; injection ee'
        rw [← entryAt_eq k p hlp] at hce2
        have hce1 : wr.cell? ⟨ae.block, ae.off + (p + 1), none⟩ = some (.int .i64 (entryAt k (p + 1))) := by rw [← hce]; rfl
        have hbe3 : (ae.add p).block < wr.heap.size := by rw [block_of_add]; omega
        have HR := Lib.hid (show riseB k (p + 1) = (decide (entryAt k p < entryAt k (p + 1)) && decide (entryAt k (p + 1) < k.ins.length)) from rfl)
        generalize entryAt k (p + 1) = F at *
        generalize entryAt k p = E at *
        have z1 : (((p : Int) + 1) == 0) = false := by rw [beq_eq_false_iff_ne]; omega
        have z2 : decide (0 < ((p : Int) + 1)) = true := decide_eq_true (by omega)
        have z3 : IntKind.i64.wrap ((p : Int) + 1 - 1) = (p : Int) := by rw [show ((p : Int) + 1 - 1) = (p : Int) from by omega]; exact IntWalk.i64_in _ (by omega)
        have e1 : ((p + 1 : Nat) : Int) = (p : Int) + 1 := by omega
        rw [e1] at g1 g2 ⊢
        rw [ee] at r3 ⊢
        clear ee e1 ee' hce
        by_cases hEF : F ≤ E
        · have t1 : decide (F ≤ E) = true := by simpa using hEF
          have HR2 := Lib.hid (show riseB k (p + 1) = false from by rw [HR.out, decide_eq_false (by omega)]; rfl)
          go_wp2_with fail
          go_quiet (fail)
          go_wp2_with fail
          go_ret
          exact fin _ _ (by rw [HN.out, all_range_false hlt HR2.out]; rfl) (below_drewN hb0r _)
        · have t1 : decide (F ≤ E) = false := by simpa using hEF
          by_cases hFn : (k.ins.length : Int) ≤ F
          · have t2 : decide ((k.ins.length : Int) ≤ F) = true := by simpa using hFn
            have HR2 := Lib.hid (show riseB k (p + 1) = false from by rw [HR.out, decide_eq_false (show ¬ F < k.ins.length from by omega)]; simp)
            go_wp2_with fail
            go_quiet (fail)
            go_wp2_with fail
            go_ret
            exact fin _ _ (by rw [HN.out, all_range_false hlt HR2.out]; rfl) (below_drewN hb0r _)
          · have t2 : decide ((k.ins.length : Int) ≤ F) = false := by simpa using hFn
            have HR2 := Lib.hid (show riseB k (p + 1) = true from by rw [HR.out, decide_eq_true (by omega), decide_eq_true (show F < k.ins.length from by omega)]; rfl)
            go_wp2_with fail
            go_quiet (fail)
            go_wp2_with fail
            go_roundw
            case rel => exact ⟨p + 1 + 1, by omega, by go_num, by rw [all_range_succ, HALL.out, HR2.out]; rfl, hq.more _⟩
            case measure => simp [intOf]; omega
    · obtain rfl : p = k.entry.length := by omega
      have HNN := Lib.hid (rise_nonneg HALL.out)
      have h00 : entryAt k 0 = 0 := by
        have := List.all_eq_true.1 HALL.out 0 (List.mem_range.2 (by omega))
        simp only [riseB, if_true, Bool.and_eq_true, decide_eq_true_eq] at this
        exact this.1
      have H00 := Lib.hid h00
      clear h00
      have hkr := hk.below hb0r
      obtain ⟨wo, rfl⟩ : ∃ wo : World, wo = wr := ⟨_, rfl⟩
      go_wp2_with fail
      go_loopw [4] (fun i wr => ∃ n : Nat, n ≤ k.ins.length ∧ i = .int .i64 n ∧ (List.range n).all (endB k) = true ∧ Below wo.heap.size wo wr) (fun i _ => k.ins.length - (intOf i).toNat)
      case atStart => exact ⟨0, by omega, rfl, rfl, Below.refl _ _⟩
      case round =>
        obtain ⟨n, hn, rfl, halle, hbj⟩ := hrel
        have HALE := Lib.hid halle
        clear halle
        have hbxj := hbxr.to hbj
        obtain ⟨hb0j, hsj, t0, t1, t2, t3, t4⟩ := id hbxj
        by_cases hlt2 : n < k.ins.length
        · have hkj := hk.below hb0j
          obtain ⟨ai, A2, c2, ei, hbi, m0, _⟩ := hkj.i.get hlt2
          have hbi2 : (ai.add (n * 7)).block < wr.heap.size := by omega
          obtain ⟨q, hq'⟩ := Int.eq_ofNat_of_zero_le (procTo_nonneg (k := k) (a := n) hel (by rw [H00.out]; omega))
          have hq' : procI k n = q := hq'
          have hql : q < k.entry.length := by have := procTo_lt k n k.entry.length; rw [show procTo k n k.entry.length = (q : Int) from hq'] at this; omega
          have HEB := Lib.hid (show endB k n = (decide (k.ins[n].op = 9) == decide (endP k q - 1 = n)) from by
            rw [endB, hq', Int.toNat_natCast, opAt, Int.toNat_natCast, List.getElem?_eq_getElem hlt2]; rfl)
          have HQ := Lib.hid hq'
          have g1 : (0 : Int) ≤ (n : Int) := by omega
          have g2 : (n : Int) < (k.ins.length : Int) := by omega
          have HEI := Lib.hid ei
          have t4' := t4
          rw [ei] at t4' ⊢
          clear ei hq'
          have hpr := fun W (h : CodeAt W w.heap.size v k) => l08Proc_any v k n W h (by omega) (by omega)
          have hpe := fun W (h : CodeAt W w.heap.size v k) => l08End_any v k q W h HCB.out hL (by omega) (fun hh => HNN.out _ hh)
          rw [HQ.out] at hpr
          rw [HEI.out] at hpr hpe
          generalize k.ins[n].op = op at *
          generalize endP k q - 1 = F at *
          have HPR := Lib.hid hpr
          have HPE := Lib.hid hpe
          clear hpr hpe
          go_wp2_with fail
          go_region_held3 (fun w' => Below wr.heap.size wr w' ∧ CodeAt w' w.heap.size v k ∧ w'.cell? ⟨w.heap.size, 0, none⟩ = some (.slice v.gA k.globals.length v.gc) ∧ w'.cell? ⟨w.heap.size, 1, none⟩ = some (.slice v.lA k.locks.length v.lc) ∧
              w'.cell? ⟨w.heap.size, 2, none⟩ = some (.slice v.pA k.procs.length v.pc) ∧ w'.cell? ⟨w.heap.size, 3, none⟩ = some (.slice v.eA k.entry.length v.ec) ∧ w'.cell? ⟨w.heap.size, 4, none⟩ = some (.slice (some ai) k.ins.length v.ic) ∧
              w'.cell? (ai.add (n * 7)) = some (.int .i64 op))
            (first | exact ⟨(Below.refl _ _).drew, hkj.below ((Below.refl _ _).drew), t0, t1, t2, t3, t4', m0⟩ | (go_split_ands; refine ⟨below_trans' (by assumption) hb1, CodeAt.below (by assumption) (hb1.mono (by have := Below.size (by assumption : Below wr.heap.size wr _); omega)), ?_, ?_, ?_, ?_, ?_, ?_⟩ <;> exact cell_below hb1 (by assumption)))
            (first | (go_at_call 130; go_split_ands; refine (HPR.out _ (by assumption)).mono ?_; rintro e w1 ⟨rfl, hb1⟩) | (go_at_call 95; go_split_ands; refine (HPE.out _ (by assumption)).mono ?_; rintro e w1 ⟨rfl, hb1⟩))
          rename_i W1 _ hS
          have hbS := hS.1
          clear hS
          have heb : ∀ b1 b2 : Bool, (op == 9) = b1 → (F == (n : Int)) = b2 → endB k n = (b1 == b2) := by
            intro b1 b2 h1 h2
            rw [HEB.out, ← h1, ← h2]
            rfl
          have HEBB := Lib.hid heb
          clear heb
          cases h1 : (op == 9) <;> cases h2 : (F == (n : Int))
          · have HE := Lib.hid (HEBB.out _ _ h1 h2)
            go_wp2_with fail
            go_roundw
            case rel => exact ⟨n + 1, by omega, by go_num, by rw [all_range_succ, HALE.out, HE.out]; rfl, below_trans' hbj hbS⟩
            case measure => simp [intOf]; omega
          · have HE := Lib.hid (HEBB.out _ _ h1 h2)
            go_wp2_with fail
            go_ret
            exact fin _ _ (by rw [HN.out, all_range_false hlt2 HE.out]; simp) (below_trans' hb0j hbS)
          · have HE := Lib.hid (HEBB.out _ _ h1 h2)
            go_wp2_with fail
            go_ret
            exact fin _ _ (by rw [HN.out, all_range_false hlt2 HE.out]; simp) (below_trans' hb0j hbS)
          · have HE := Lib.hid (HEBB.out _ _ h1 h2)
            go_wp2_with fail
            go_roundw
            case rel => exact ⟨n + 1, by omega, by go_num, by rw [all_range_succ, HALE.out, HE.out]; rfl, below_trans' hbj hbS⟩
            case measure => simp [intOf]; omega
        · go_wp2_with fail
          go_ret
          obtain rfl : n = k.ins.length := by omega
          exact fin _ _ (by rw [HN.out, HALL.out, HALE.out]; rfl) hb0j

theorem l08Heads_any {B L : Nat} (v : CV) (k : Cd) (w : World) (hk : CodeAt w B v k) (hb : CdB L k) (hL : L ≤ 1099511627776) :
    Calls Try.prog 108 #[.agg #[.slice v.gA k.globals.length v.gc, .slice v.lA k.locks.length v.lc, .slice v.pA k.procs.length v.pc, .slice v.eA k.entry.length v.ec, .slice v.iA k.ins.length v.ic]] w fun e w' => e = .returned (.bool (headsB k)) ∧ Below w.heap.size w w' := by
  cases h : (namesB k && (decide (k.entry.length = k.procs.length) && decide (k.ins.length ≤ 1500)))
  · refine (l08Heads_names v k w hk hb hL h).mono fun r w' ⟨hr, hw⟩ => ⟨?_, hw⟩
    have : headsB k = false := by
      rw [headsB, ← Bool.and_assoc (decide _), ← Bool.and_assoc (namesB k), h]; rfl
    rw [hr, this]
  · simp only [Bool.and_eq_true, decide_eq_true_eq] at h
    exact l08Heads_yes v k w hk hb hL h.1 h.2.1 h.2.2
end Go.Proofs.Ytjnlmiekldflhaa
