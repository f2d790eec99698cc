/- Contract of entriesRight. -/
import Derived.Test.YtjnlmiekldflhaaInsT
set_option linter.unusedSimpArgs false
set_option linter.unusedVariables false
namespace Go.Proofs.Ytjnlmiekldflhaa
open Go.ChangeShapes Go.WideShapes Go.ChangeAt Go.RowKit

def entryAt (k : Cd) (i : Nat) : Int := (k.entry[i]?).getD 0
def opAt (k : Cd) (a : Int) : Int := ((k.ins[a.toNat]?).map Is.op).getD 0
/-- How many ends there are among the first. -/
def endsTo (k : Cd) (n : Nat) : Nat := ((k.ins.take n).filter fun x => decide (x.op = 9)).length
def rowB (k : Cd) (i : Nat) : Bool := !(decide (endP k i ≤ entryAt k i)) && (!(decide ((k.ins.length : Int) < endP k i)) && decide (opAt k (endP k i - 1) = 9))
def entriesB (k : Cd) : Bool := decide (k.ins.length ≤ 1500) && (decide (k.entry.length = k.procs.length) && (decide (entryAt k 0 = 0) && (decide (endsTo k k.ins.length = k.entry.length) && (List.range k.entry.length).all (rowB k))))
theorem endsTo_succ (k : Cd) (n : Nat) (h : n < k.ins.length) : endsTo k (n + 1) = endsTo k n + (if k.ins[n].op = 9 then 1 else 0) := by
  unfold endsTo
  rw [List.take_succ_eq_append_getElem h, List.filter_append, List.length_append]
  by_cases h9 : k.ins[n].op = 9 <;> simp [h9]
theorem endsTo_le (k : Cd) (n : Nat) : endsTo k n ≤ n := by
  unfold endsTo
  refine Nat.le_trans (List.length_filter_le _ _) ?_
  rw [List.length_take]; omega
theorem entryAt_eq (k : Cd) (i : Nat) (h : i < k.entry.length) : entryAt k i = k.entry[i] := by simp [entryAt, h]
theorem all_range_succ (n : Nat) (f : Nat → Bool) : (List.range (n + 1)).all f = ((List.range n).all f && f n) := by
  rw [List.range_succ, List.all_append]; simp
theorem all_range_false {n i : Nat} {f : Nat → Bool} (h : i < n) (hf : f i = false) : (List.range n).all f = false :=
  List.all_eq_false.2 ⟨i, List.mem_range.2 h, by simp [hf]⟩

set_option maxHeartbeats 4000000 in
theorem entriesRight_no {B : Nat} (v : CV) (k : Cd) (w : World) (hk : CodeAt w B v k) (h0 : 1 ≤ k.procs.length) (hl : k.entry.length ≤ 1099511627776) (hi : k.ins.length ≤ 1099511627776) (hp : k.procs.length ≤ 1099511627776)
    (h : ¬ (k.ins.length ≤ 1500 ∧ k.entry.length = k.procs.length ∧ entryAt k 0 = 0)) :
    Calls Try.prog 103 #[.agg #[.slice v.gA k.globals.length v.gc, .slice v.lA k.locks.length v.lc, .slice v.pA k.procs.length v.pc, .slice v.eA k.entry.length v.ec, .slice v.iA k.ins.length v.ic]] w fun r w' => r = .returned (.bool false) ∧ Below w.heap.size w w' := by
  by_cases h1 : k.ins.length ≤ 1500
  · have q1 : decide ((1500 : Int) < (k.ins.length : Int)) = false := by simp; omega
    by_cases h2 : k.entry.length = k.procs.length
    · have q2 : (((k.entry.length : Nat) : Int) != (k.procs.length : Int)) = false := by rw [h2]; simp
      have h3 : ¬ entryAt k 0 = 0 := fun h3 => h ⟨h1, h2, h3⟩
      have hel : 0 < k.entry.length := by omega
      rw [entryAt_eq k 0 hel] at h3
      have q3 : (k.entry[0] != 0) = true := by simpa using h3
      obtain ⟨ad, e, hb, hc⟩ := hk.e.full.int (k := 0) hel
      have hc' : w.cell? ad = some (.int .i64 k.entry[0]) := by rw [← hc]; rfl
      rw [e]
      have H2 := Lib.hid h2
      clear h h2 h3 hc e
      go_enter Try.func103, Try.ntmps103
      go_wp2_with fail
      go_ret
      exact ⟨rfl, below_alloc0 _ _⟩
    · have q2 : (((k.entry.length : Nat) : Int) != (k.procs.length : Int)) = true := by rw [bne_iff_ne]; omega
      go_enter Try.func103, Try.ntmps103
      go_wp2_with fail
      go_ret
      exact ⟨rfl, below_alloc0 _ _⟩
  · have q1 : decide ((1500 : Int) < (k.ins.length : Int)) = true := by simp; omega
    go_enter Try.func103, Try.ntmps103
    go_wp2_with fail
    go_ret
    exact ⟨rfl, below_alloc0 _ _⟩

set_option maxHeartbeats 4000000 in
theorem entriesRight_yes {B L : Nat} (v : CV) (k : Cd) (w : World) (hk : CodeAt w B v k) (hcb : CdB L k) (h0 : 1 ≤ k.procs.length) (h1 : k.ins.length ≤ 1500) (h2 : k.entry.length = k.procs.length) (h3 : entryAt k 0 = 0) (hl : k.entry.length ≤ 1099511627776) :
    Calls Try.prog 103 #[.agg #[.slice v.gA k.globals.length v.gc, .slice v.lA k.locks.length v.lc, .slice v.pA k.procs.length v.pc, .slice v.eA k.entry.length v.ec, .slice v.iA k.ins.length v.ic]] w fun r w' => r = .returned (.bool (entriesB k)) ∧ Below w.heap.size w w' := by
  have HN := Lib.hid (show entriesB k = (decide (endsTo k k.ins.length = k.entry.length) && (List.range k.entry.length).all (rowB k)) from by
    rw [entriesB, decide_eq_true h1, decide_eq_true h2, decide_eq_true h3]; rfl)
  have fin : ∀ (y : Bool) w', y = entriesB k → Below w.heap.size w w' → Ending.returned (.bool y) = .returned (.bool (entriesB k)) ∧ Below w.heap.size w w' := fun y w' h1 h2 => ⟨by rw [h1], h2⟩
  have q1 : decide ((1500 : Int) < (k.ins.length : Int)) = false := by simp; omega
  have q2 : (((k.entry.length : Nat) : Int) != (k.procs.length : Int)) = false := by rw [h2]; simp
  have hel : 1 ≤ k.entry.length := by omega
  have hkf := hk.full
  obtain ⟨ad, e, hb, hc⟩ := hkf.e.int (k := 0) hel
  have H3 := Lib.hid h3
  have h3' : k.entry[0] = 0 := by rw [← entryAt_eq k 0 hel]; exact h3
  have hc' : w.cell? ad = some (.int .i64 0) := by rw [← h3', ← hc]; rfl
  have HEF := Lib.hid hcb.entryF
  have H2 := Lib.hid h2
  have HE := Lib.hid e
  clear hc h3 h3' h2 hcb
  rw [e]
  clear e
  go_enter Try.func103, Try.ntmps103
  go_wp2_with fail
  rw [← HE.out]
  have hbx := codeBox w v k
  generalize w.alloc (.cells #[.slice v.gA k.globals.length v.gc, .slice v.lA k.locks.length v.lc, .slice v.pA k.procs.length v.pc, .slice v.eA k.entry.length v.ec, .slice v.iA k.ins.length v.ic] 33) = W at hbx ⊢
  have hb0 := hbx.1
  go_loopw [3, 32] (fun c i wr => ∃ n : Nat, n ≤ k.ins.length ∧ i = .int .i64 n ∧ c = .int .i64 (endsTo k n : Int) ∧ Below W.heap.size W wr) (fun _ i _ => k.ins.length - (intOf i).toNat)
  case atStart => exact ⟨0, by omega, rfl, rfl, Below.refl _ _⟩
  case round =>
    obtain ⟨n, hn, rfl, rfl, hbr⟩ := hrel
    have hle := endsTo_le k n
    have hsz := hbr.size
    by_cases hlt : n < k.ins.length
    · obtain ⟨ad2, A', c', e2, hbk, c0, c1, c2, c3, c4, c5, c6, _⟩ := ((hkf.i.below hb0).full.below hbr).get hlt
      have hbk' : (ad2.add (n * 7)).block < wr.heap.size := by omega
      have HS := Lib.hid (endsTo_succ k n hlt)
      by_cases h9 : k.ins[n].op = 9
      · have p9 : (k.ins[n].op == 9) = true := by simp [h9]
        have H9 := Lib.hid h9
        clear h9
        rw [e2]
        clear e2
        go_wp2_with fail
        go_roundw
        case rel => exact ⟨n + 1, by omega, by go_num, by rw [HS.out, if_pos H9.out]; go_num, below_alloc hbr (Nat.le_refl _) _⟩
        case measure => simp [intOf]; omega
      · have p9 : (k.ins[n].op == 9) = false := by simp [h9]
        have H9 := Lib.hid h9
        clear h9
        rw [e2]
        clear e2
        go_wp2_with fail
        go_roundw
        case rel => exact ⟨n + 1, by omega, by go_num, by rw [HS.out, if_neg H9.out]; rfl, below_alloc hbr (Nat.le_refl _) _⟩
        case measure => simp [intOf]; omega
    · obtain rfl : n = k.ins.length := by omega
      obtain ⟨hb0r, hs0, b0, b1, b2, b3, b4⟩ := hbx.to hbr
      have hkr := (hkf.below hb0).full.below hbr
      obtain ⟨wo, rfl⟩ : ∃ wo : World, wo = wr := ⟨_, rfl⟩
      by_cases hcnt : endsTo k k.ins.length = k.entry.length
      · have q4 : (((endsTo k k.ins.length : Nat) : Int) != (k.entry.length : Int)) = false := by rw [hcnt]; simp
        have HCN := Lib.hid hcnt
        clear hcnt
        go_wp2_with fail
        go_loopw [50] (fun i w2 => ∃ p : Nat, p ≤ k.entry.length ∧ i = .int .i64 p ∧ (List.range p).all (rowB k) = true ∧ 0 ≤ entryAt k p ∧ Below wo.heap.size wo w2) (fun i _ => k.entry.length - (intOf i).toNat)
        case atStart => exact ⟨0, by omega, rfl, rfl, by rw [H3.out]; omega, Below.refl _ _⟩
        case round =>
          obtain ⟨p, hp, rfl, hall, hen, hbq⟩ := hrel
          have HALL := Lib.hid hall
          have HEN := Lib.hid hen
          clear hall hen
          obtain ⟨_, hs0q, d0, d1, d2, d3, d4⟩ := (hbx.to hbr).to hbq
          have hszq := hbq.size
          have hkq := hkr.full.below hbq
          by_cases hlt : p < k.entry.length
          · obtain ⟨ae, ee, hbe, hce⟩ := hkq.e.int hlt
            have hE : 0 ≤ k.entry[p] := by rw [← entryAt_eq k p hlt]; exact HEN.out
            have hEf := HEF.out _ (List.getElem_mem hlt)
            unfold Fits at hEf
            have hbe' : (ae.add p).block < wr.heap.size := by rw [block_of_add]; omega
            have HEA := Lib.hid (entryAt_eq k p hlt)
            have g1 : (0 : Int) ≤ (p : Int) := by omega
            have g2 : (p : Int) < (k.entry.length : Int) := by omega
            generalize hEq : k.entry[p] = E at *
            clear hEq
            by_cases hp1 : p + 1 < k.entry.length
            · obtain ⟨ae', ee', hbe2, hce2⟩ := hkq.e.int hp1
              have hfF := HEF.out _ (List.getElem_mem hp1)
              unfold Fits at hfF
              have HEP := Lib.hid (show endP k p = k.entry[p + 1] from by rw [endP, dif_pos hp1])
              have HEA2 := Lib.hid (entryAt_eq k (p + 1) hp1)
              obtain rfl : ae = ae' := by rw [ee] at ee'; injection ee'
              have hce3 : wr.cell? ⟨ae.block, ae.off + (p + 1), none⟩ = some (.int .i64 k.entry[p + 1]) := by rw [← hce2]; rfl
              clear hce2 ee'
              generalize k.entry[p + 1] = F at *
              by_cases t1 : F ≤ E
              · have t1' : decide (F ≤ E) = true := by simpa using t1
                have HR := Lib.hid (show rowB k p = false from by rw [rowB, HEP.out, HEA.out, decide_eq_true t1]; rfl)
                rw [ee] at d3 ⊢
                clear ee
                go_wp2_with fail
                go_quiet (fail)
                go_wp2_with fail
                go_ret
                exact fin _ _ (by rw [HN.out, all_range_false hlt HR.out]; simp) (below_drewN (below_trans' hb0r hbq) _)
              · have t1' : decide (F ≤ E) = false := by simpa using t1
                by_cases t2 : (k.ins.length : Int) < F
                · have t2' : decide ((k.ins.length : Int) < F) = true := by simpa using t2
                  have HR := Lib.hid (show rowB k p = false from by rw [rowB, HEP.out, decide_eq_true t2]; simp)
                  rw [ee] at d3 ⊢
                  clear ee
                  go_wp2_with fail
                  go_quiet (fail)
                  go_wp2_with fail
                  go_ret
                  exact fin _ _ (by rw [HN.out, all_range_false hlt HR.out]; simp) (below_drewN (below_trans' hb0r hbq) _)
                · have t2' : decide ((k.ins.length : Int) < F) = false := by simpa using t2
                  obtain ⟨m, rfl⟩ : ∃ m : Nat, F = (m : Int) + 1 := ⟨(F - 1).toNat, by omega⟩
                  have hmi : m < k.ins.length := by omega
                  obtain ⟨ai, A', c', ei, hbi, c0, _⟩ := hkq.i.get hmi
                  have hbi' : (ai.add (m * 7)).block < wr.heap.size := by omega
                  have HOP := Lib.hid (show opAt k (((m : Int) + 1) - 1) = k.ins[m].op from by
                    rw [show ((m : Int) + 1 - 1) = (m : Int) from by omega, opAt, Int.toNat_natCast, List.getElem?_eq_getElem hmi]; rfl)
                  rw [ee] at d3 ⊢
                  rw [ei] at d4 ⊢
                  clear ee ei
                  by_cases h9 : k.ins[m].op = 9
                  · have h9' : (k.ins[m].op != 9) = false := by simp [h9]
                    have HR := Lib.hid (show rowB k p = true from by rw [rowB, HEP.out, HEA.out, HOP.out, decide_eq_false t1, decide_eq_false t2, decide_eq_true h9]; rfl)
                    clear h9
                    go_wp2_with fail
                    go_quiet (fail)
                    go_wp2_with fail
                    go_roundw
                    case rel => exact ⟨p + 1, by omega, by go_num, by rw [all_range_succ, HALL.out, HR.out]; rfl, by rw [HEA2.out]; omega, below_drewN hbq _⟩
                    case measure => simp [intOf]; omega
                  · have h9' : (k.ins[m].op != 9) = true := by simp [h9]
                    have HR := Lib.hid (show rowB k p = false from by rw [rowB, HEP.out, HOP.out, decide_eq_false h9]; simp)
                    clear h9
                    go_wp2_with fail
                    go_quiet (fail)
                    go_wp2_with fail
                    go_ret
                    exact fin _ _ (by rw [HN.out, all_range_false hlt HR.out]; simp) (below_drewN (below_trans' hb0r hbq) _)
            · have HEP := Lib.hid (show endP k p = k.ins.length from by rw [endP, dif_neg hp1])
              by_cases t1 : (k.ins.length : Int) ≤ E
              · have t1' : decide ((k.ins.length : Int) ≤ E) = true := by simpa using t1
                have HR := Lib.hid (show rowB k p = false from by rw [rowB, HEP.out, HEA.out, decide_eq_true t1]; rfl)
                rw [ee] at d3 ⊢
                clear ee
                go_wp2_with fail
                go_quiet (fail)
                go_wp2_with fail
                go_ret
                exact fin _ _ (by rw [HN.out, all_range_false hlt HR.out]; simp) (below_drewN (below_trans' hb0r hbq) _)
              · have t1' : decide ((k.ins.length : Int) ≤ E) = false := by simpa using t1
                have hmi : k.ins.length - 1 < k.ins.length := by omega
                obtain ⟨ai, A', c', ei, hbi, c0, _⟩ := hkq.i.get hmi
                have hbi' : (ai.add ((k.ins.length - 1) * 7)).block < wr.heap.size := by omega
                have HOP := Lib.hid (show opAt k ((k.ins.length : Int) - 1) = k.ins[k.ins.length - 1].op from by
                  rw [show ((k.ins.length : Int) - 1) = ((k.ins.length - 1 : Nat) : Int) from by omega, opAt, Int.toNat_natCast, List.getElem?_eq_getElem hmi]; rfl)
                rw [ee] at d3 ⊢
                rw [ei] at d4 ⊢
                clear ee ei
                by_cases h9 : k.ins[k.ins.length - 1].op = 9
                · have h9' : (k.ins[k.ins.length - 1].op != 9) = false := by simp [h9]
                  have HR := Lib.hid (show rowB k p = true from by rw [rowB, HEP.out, HEA.out, HOP.out, decide_eq_false t1, decide_eq_true h9, decide_eq_false (by omega)]; rfl)
                  clear h9
                  go_wp2_with fail
                  go_quiet (fail)
                  go_wp2_with fail
                  go_roundw
                  case rel => exact ⟨p + 1, by omega, by go_num, by rw [all_range_succ, HALL.out, HR.out]; rfl, by rw [entryAt, List.getElem?_eq_none (by omega)]; exact Int.le_refl 0, below_drewN hbq _⟩
                  case measure => simp [intOf]; omega
                · have h9' : (k.ins[k.ins.length - 1].op != 9) = true := by simp [h9]
                  have HR := Lib.hid (show rowB k p = false from by rw [rowB, HEP.out, HOP.out, decide_eq_false h9]; simp)
                  clear h9
                  go_wp2_with fail
                  go_quiet (fail)
                  go_wp2_with fail
                  go_ret
                  exact fin _ _ (by rw [HN.out, all_range_false hlt HR.out]; simp) (below_drewN (below_trans' hb0r hbq) _)
          · go_wp2_with fail
            go_ret
            obtain rfl : p = k.entry.length := by omega
            exact fin _ _ (by rw [HN.out, HALL.out, decide_eq_true HCN.out]; rfl) (below_trans' hb0r hbq)
      · have q4 : (((endsTo k k.ins.length : Nat) : Int) != (k.entry.length : Int)) = true := by rw [bne_iff_ne]; omega
        have HCN := Lib.hid hcnt
        clear hcnt
        go_wp2_with fail
        go_ret
        exact fin _ _ (by rw [HN.out, decide_eq_false HCN.out]; rfl) hb0r

theorem entriesRight_any {B L : Nat} (v : CV) (k : Cd) (w : World) (hk : CodeAt w B v k) (hcb : CdB L k) (hL : L ≤ 1099511627776) (h0 : 1 ≤ k.procs.length) :
    Calls Try.prog 103 #[.agg #[.slice v.gA k.globals.length v.gc, .slice v.lA k.locks.length v.lc, .slice v.pA k.procs.length v.pc, .slice v.eA k.entry.length v.ec, .slice v.iA k.ins.length v.ic]] w fun r w' => r = .returned (.bool (entriesB k)) ∧ Below w.heap.size w w' := by
  have l1 := hcb.entry
  have l2 := hcb.ins
  have l3 := hcb.procs
  by_cases h : k.ins.length ≤ 1500 ∧ k.entry.length = k.procs.length ∧ entryAt k 0 = 0
  · exact entriesRight_yes v k w hk hcb h0 h.1 h.2.1 h.2.2 (by omega)
  · refine (entriesRight_no v k w hk h0 (by omega) (by omega) (by omega) h).mono fun r w' ⟨hr, hw⟩ => ⟨?_, hw⟩
    have : entriesB k = false := by
      unfold entriesB
      by_cases h1 : k.ins.length ≤ 1500
      · by_cases h2 : k.entry.length = k.procs.length
        · rw [decide_eq_false (show ¬ entryAt k 0 = 0 from fun h3 => h ⟨h1, h2, h3⟩)]; simp
        · rw [decide_eq_false h2]; simp
      · rw [decide_eq_false h1]; simp
    rw [hr, this]
end Go.Proofs.Ytjnlmiekldflhaa
