/- Contracts of the reference's l08Proc, l08End, l08Heads. -/
import Derived.Test.YtjnlmiekldflhaaCodeI
set_option linter.unusedSimpArgs false
set_option linter.unusedVariables false
namespace Go.Proofs.Ytjnlmiekldflhaa
open Go.ChangeShapes Go.WideShapes Go.ChangeAt Go.RowKit

/-- The last one of the first i procedures that begins at a or ahead of it; -1 without one. -/
def procTo (k : Cd) (a : Nat) : Nat → Int
  | 0 => -1
  | i + 1 => if entryAt k i ≤ a then (i : Int) else procTo k a i
def procI (k : Cd) (a : Nat) : Int := procTo k a k.entry.length
theorem procTo_lt (k : Cd) (a n : Nat) : procTo k a n < n := by
  induction n with
  | zero => simp [procTo]
  | succ n ih => unfold procTo; split <;> omega
theorem procTo_nonneg {k : Cd} {a n : Nat} (h : 1 ≤ n) (h0 : entryAt k 0 ≤ a) : 0 ≤ procTo k a n := by
  induction n with
  | zero => omega
  | succ n ih =>
    unfold procTo
    split
    · omega
    · rename_i hh
      cases n with
      | zero => exact absurd h0 hh
      | succ n => exact ih (by omega)

theorem l08Proc_any {B : Nat} (v : CV) (k : Cd) (a : Nat) (w : World) (hk : CodeAt w B v k) (hl : k.entry.length ≤ 1099511627776) (ha : a ≤ 1099511627776) :
    Calls Try.prog 130 #[.agg #[.slice v.gA k.globals.length v.gc, .slice v.lA k.locks.length v.lc, .slice v.pA k.procs.length v.pc, .slice v.eA k.entry.length v.ec, .slice v.iA k.ins.length v.ic], .int .i64 a] w fun r w' => r = .returned (.int .i64 (procI k a)) ∧ Below w.heap.size w w' := by
  have hkf := hk.full
  go_enter Try.func130, Try.ntmps130
  go_wp2_with fail
  have hbx := codeBox w v k
  generalize w.alloc (.cells #[.slice v.gA k.globals.length v.gc, .slice v.lA k.locks.length v.lc, .slice v.pA k.procs.length v.pc, .slice v.eA k.entry.length v.ec, .slice v.iA k.ins.length v.ic] 33) = W at hbx ⊢
  obtain ⟨hb0, hs0, b0, b1, b2, b3, b4⟩ := id hbx
  have hkw := hkf.below hb0
  go_loop [5] (fun i => ∃ n : Nat, n ≤ k.entry.length ∧ i = .int .i64 ((n : Int) - 1) ∧ procI k a = procTo k a n) (fun i => (intOf i + 1).toNat)
  case atStart => exact ⟨k.entry.length, Nat.le_refl _, rfl, rfl⟩
  case round =>
    obtain ⟨n, hn, rfl, hpr⟩ := hrel
    have HP := Lib.hid hpr
    clear hpr
    cases n with
    | zero =>
      have e : ((0 : Nat) : Int) - 1 = -1 := rfl
      rw [e]
      clear e
      go_wp2_with fail
      go_ret
      exact ⟨ret_int HP.out.symm, hb0⟩
    | succ i =>
      have e : ((i + 1 : Nat) : Int) - 1 = (i : Int) := by omega
      rw [e]
      clear e
      have hlt : i < k.entry.length := by omega
      obtain ⟨ae, ee, hbe, hce⟩ := hkw.e.int hlt
      have hbe' : (ae.add i).block < W.heap.size := by rw [block_of_add]; omega
      rw [← entryAt_eq k i hlt] at hce
      have HT := Lib.hid (show procTo k a (i + 1) = if entryAt k i ≤ a then (i : Int) else procTo k a i from rfl)
      generalize entryAt k i = E at *
      rw [ee] at b3 ⊢
      clear ee
      by_cases hE : E ≤ a
      · go_wp2_with fail
        go_ret
        exact ⟨ret_int (by rw [HP.out, HT.out, if_pos hE]), hb0⟩
      · go_wp2_with fail
        go_round
        case rel => exact ⟨i, by omega, rfl, by rw [HP.out, HT.out, if_neg hE]⟩
        case measure => first | (simp [intOf]; done) | (simp [intOf]; omega)

theorem l08End_any {B L : Nat} (v : CV) (k : Cd) (p : Nat) (w : World) (hk : CodeAt w B v k) (hcb : CdB L k) (hL : L ≤ 1099511627776) (hp : p ≤ 1099511627776) (h0 : p + 1 < k.entry.length → 0 ≤ entryAt k (p + 1)) :
    Calls Try.prog 95 #[.agg #[.slice v.gA k.globals.length v.gc, .slice v.lA k.locks.length v.lc, .slice v.pA k.procs.length v.pc, .slice v.eA k.entry.length v.ec, .slice v.iA k.ins.length v.ic], .int .i64 p] w fun r w' => r = .returned (.int .i64 (endP k p - 1)) ∧ Below w.heap.size w w' := by
  have l1 := hcb.entry
  have l2 := hcb.ins
  by_cases h : p + 1 < k.entry.length
  · have HE := Lib.hid (show endP k p = k.entry[p + 1] from by rw [endP, dif_pos h])
    have hnn := h0 h
    rw [entryAt_eq k _ h] at hnn
    have hfit := hcb.entryF _ (List.getElem_mem h)
    unfold Fits at hfit
    obtain ⟨ad, e, hb, hc⟩ := hk.e.full.int h
    have hc' : w.cell? ⟨ad.block, ad.off + (p + 1), none⟩ = some (.int .i64 k.entry[p + 1]) := by rw [← hc]; rfl
    rw [e]
    clear e hc h0
    generalize k.entry[p + 1] = F at *
    go_enter Try.func95, Try.ntmps95
    go_wp2_with fail
    go_ret
    exact ⟨ret_int (by rw [HE.out]), below_alloc0 _ _⟩
  · have HE := Lib.hid (show endP k p = k.ins.length from by rw [endP, dif_neg h])
    go_enter Try.func95, Try.ntmps95
    go_wp2_with fail
    go_ret
    exact ⟨ret_int (by rw [HE.out]), below_alloc0 _ _⟩

/-- Entry i rises, and is a place. -/
def riseB (k : Cd) (i : Nat) : Bool := (if i = 0 then decide (entryAt k 0 = 0) else decide (entryAt k (i - 1) < entryAt k i)) && decide (entryAt k i < k.ins.length)
/-- Place i is an end just when it is the last one of its procedure. -/
def endB (k : Cd) (i : Nat) : Bool := decide (opAt k i = 9) == decide (endP k (procI k i).toNat - 1 = i)
def headsB (k : Cd) : Bool := namesB k && (decide (k.entry.length = k.procs.length) && (decide (k.ins.length ≤ 1500) && ((List.range k.entry.length).all (riseB k) && (List.range k.ins.length).all (endB k))))

theorem rise_nonneg {k : Cd} {n : Nat} (h : (List.range n).all (riseB k) = true) (i : Nat) (hi : i < n) : 0 ≤ entryAt k i := by
  rw [List.all_eq_true] at h
  induction i with
  | zero =>
    have := h 0 (List.mem_range.2 hi)
    simp only [riseB, if_true, Bool.and_eq_true, decide_eq_true_eq] at this
    omega
  | succ i ih =>
    have h1 := ih (by omega)
    have := h (i + 1) (List.mem_range.2 hi)
    simp only [riseB, Nat.add_one_ne_zero, if_false, Bool.and_eq_true, decide_eq_true_eq, Nat.add_sub_cancel] at this
    omega

set_option maxHeartbeats 8000000 in
theorem l08Heads_names {B L : Nat} (v : CV) (k : Cd) (w : World) (hk : CodeAt w B v k) (hb : CdB L k) (hL : L ≤ 1099511627776) (hno : (namesB k && (decide (k.entry.length = k.procs.length) && decide (k.ins.length ≤ 1500))) = false) :
    Calls Try.prog 108 #[.agg #[.slice v.gA k.globals.length v.gc, .slice v.lA k.locks.length v.lc, .slice v.pA k.procs.length v.pc, .slice v.eA k.entry.length v.ec, .slice v.iA k.ins.length v.ic]] w fun e w' => e = .returned (.bool false) ∧ Below w.heap.size w w' := by
  have hgS : ∀ s ∈ k.globals, s.size ≤ 1099511627776 := fun s hs => by have := hb.globalsS s hs; omega
  have hlS : ∀ s ∈ k.locks, s.size ≤ 1099511627776 := fun s hs => by have := hb.locksS s hs; omega
  have hpS : ∀ s ∈ k.procs, s.size ≤ 1099511627776 := fun s hs => by have := hb.procsS s hs; omega
  have n1 := hb.globals
  have n2 := hb.locks
  have n3 := hb.procs
  have n4 := hb.entry
  have n5 := hb.ins
  have i1 := hk.gl
  have i2 := hk.ll
  have i3 := hk.pl
  have hk := hk.full
  have HG := Lib.hid (fun W (h : Rd W w.heap.size v.gA (k.globals.map sv)) => l05Names_any v.gA v.gc k.globals 6 W h (by omega) (by omega) hgS)
  have HLk := Lib.hid (fun W (h : Rd W w.heap.size v.lA (k.locks.map sv)) => l05Names_any v.lA v.lc k.locks 6 W h (by omega) (by omega) hlS)
  have HP := Lib.hid (fun W (h : Rd W w.heap.size v.pA (k.procs.map sv)) => l05Names_any v.pA v.pc k.procs 8 W h (by omega) (by omega) hpS)
  have HG2 := Lib.hid (fun W (h : Rd W w.heap.size v.gA (k.globals.map sv)) => l07Twice_any v.gA v.gc k.globals W h (by omega) i1)
  have HL2 := Lib.hid (fun W (h : Rd W w.heap.size v.lA (k.locks.map sv)) => l07Twice_any v.lA v.lc k.locks W h (by omega) i2)
  have HP2 := Lib.hid (fun W (h : Rd W w.heap.size v.pA (k.procs.map sv)) => l07Twice_any v.pA v.pc k.procs W h (by omega) i3)
  have HP3 := Lib.hid (fun W (h : Rd W w.heap.size v.pA (k.procs.map sv)) => placeOf_s v.pA v.pc k.procs mainS W h (by omega))
  have HPL : Hid (decide (placeOf k.procs mainS < 0) = !decide (mainS ∈ k.procs)) := by
    by_cases hm : mainS ∈ k.procs
    · rw [placeOf, if_pos hm, decide_eq_true hm, decide_eq_false (by omega)]; exact rfl
    · rw [placeOf, if_neg hm, decide_eq_false hm]; exact rfl
  have HN := Lib.hid hno
  unfold namesB at HN
  clear hgS hlS hpS hb hno
  have hbx := codeBox w v k
  generalize areNamesB k.globals 6 = x1 at HN HG
  generalize areNamesB k.locks 6 = x2 at HN HLk
  generalize areNamesB k.procs 8 = x3 at HN HP
  generalize twiceB k.globals = x4 at HN HG2
  generalize twiceB k.locks = x5 at HN HL2
  generalize twiceB k.procs = x6 at HN HP2
  generalize decide (mainS ∈ k.procs) = x7 at HN HPL
  generalize placeOf k.procs mainS = pm at HP3 HPL
  have q8 : (decide (k.entry.length = k.procs.length) = true ∧ (((k.entry.length : Nat) : Int) != (k.procs.length : Int)) = false) ∨ (decide (k.entry.length = k.procs.length) = false ∧ (((k.entry.length : Nat) : Int) != (k.procs.length : Int)) = true) := by
    by_cases h : k.entry.length = k.procs.length
    · left; exact ⟨decide_eq_true h, by rw [h]; simp⟩
    · right; exact ⟨decide_eq_false h, by rw [bne_iff_ne]; omega⟩
  have q9 : (decide (k.ins.length ≤ 1500) = true ∧ decide ((1500 : Int) < (k.ins.length : Int)) = false) ∨ (decide (k.ins.length ≤ 1500) = false ∧ decide ((1500 : Int) < (k.ins.length : Int)) = true) := by
    by_cases h : k.ins.length ≤ 1500
    · left; exact ⟨decide_eq_true h, by simp; omega⟩
    · right; exact ⟨decide_eq_false h, by simp; omega⟩
  generalize decide (k.entry.length = k.procs.length) = y8 at q8 HN
  generalize decide (k.ins.length ≤ 1500) = y9 at q9 HN
  have Q8 := Lib.hid q8
  have Q9 := Lib.hid q9
  clear q8 q9
  go_enter Try.func108, Try.ntmps108
  go_wp2_with fail
  generalize w.alloc (.cells #[.slice v.gA k.globals.length v.gc, .slice v.lA k.locks.length v.lc, .slice v.pA k.procs.length v.pc, .slice v.eA k.entry.length v.ec, .slice v.iA k.ins.length v.ic] 33) = W at hbx ⊢
  obtain ⟨hb0, hs0, b0, b1, b2, b3, b4⟩ := id hbx
  have hkw := hk.below hb0
  have hg := hkw.g
  have hl := hkw.l
  have hp := hkw.p
  refine (HG.out _ hg).mono ?_
  rintro e w' ⟨rfl, rfl⟩
  cases x1
  · go_wp2_with fail
    go_ret
    exact ⟨rfl, hb0⟩
  go_wp2_with fail
  refine (HLk.out _ hl).mono ?_
  rintro e w' ⟨rfl, rfl⟩
  cases x2
  · go_wp2_with fail
    go_ret
    exact ⟨rfl, hb0⟩
  go_wp2_with fail
  refine (HP.out _ hp).mono ?_
  rintro e w' ⟨rfl, rfl⟩
  cases x3
  · go_wp2_with fail
    go_ret
    exact ⟨rfl, hb0⟩
  go_wp2_with fail
  refine (HG2.out _ hg).mono ?_
  rintro e w4 ⟨rfl, hd4⟩
  obtain ⟨hb04, hs4, c0, c1, c2, c3, c4⟩ := id (hbx.to (hd4.below _))
  cases x4
  case true =>
    go_wp2_with fail
    go_ret
    exact ⟨rfl, hb04⟩
  go_wp2_with fail
  refine (HL2.out _ (hd4.rd hl)).mono ?_
  rintro e w5 ⟨rfl, hd5⟩
  have hd05 := hd4.trans hd5
  obtain ⟨hb05, hs5, d0, d1, d2, d3, d4⟩ := id (hbx.to (hd05.below _))
  cases x5
  case true =>
    go_wp2_with fail
    go_ret
    exact ⟨rfl, hb05⟩
  go_wp2_with fail
  refine (HP2.out _ (hd05.rd hp)).mono ?_
  rintro e w6 ⟨rfl, hd6⟩
  have hd06 := hd05.trans hd6
  obtain ⟨hb06, hs6, e0, e1, e2, e3, e4⟩ := id (hbx.to (hd06.below _))
  cases x6
  case true =>
    go_wp2_with fail
    go_ret
    exact ⟨rfl, hb06⟩
  rcases Q8.out with ⟨h8, h8'⟩ | ⟨h8, h8'⟩
  case inr =>
    clear h8
    go_wp2_with fail
    go_ret
    exact ⟨rfl, hb06⟩
  rcases Q9.out with ⟨h9, h9'⟩ | ⟨h9, h9'⟩
  case inr =>
    clear h9
    go_wp2_with fail
    go_ret
    exact ⟨rfl, hb06⟩
  have H8 := Lib.hid h8
  have H9 := Lib.hid h9
  clear h8 h9
  go_wp2_with fail
  refine (HP3.out _ (hd06.rd hp)).mono ?_
  rintro e w' ⟨rfl, rfl⟩
  cases x7
  · have hpm : decide (pm < 0) = true := HPL.out
    go_wp2_with fail
    go_ret
    exact ⟨rfl, hb06⟩
  · have hh := HN.out
    rw [H8.out, H9.out] at hh
    cases hh
end Go.Proofs.Ytjnlmiekldflhaa
