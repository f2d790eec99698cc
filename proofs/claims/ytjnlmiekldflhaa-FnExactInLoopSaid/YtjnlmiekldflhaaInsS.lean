/- Contract of the reference's l08Ins. -/
import Derived.Test.YtjnlmiekldflhaaHeadsY
set_option linter.unusedSimpArgs false
set_option linter.unusedVariables false
namespace Go.Proofs.Ytjnlmiekldflhaa
open Go.ChangeShapes Go.WideShapes Go.ChangeAt Go.RowKit

/-- The procedure of a place, as a number from 0 on. -/
def procN (k : Cd) (a : Nat) : Nat := (procI k a).toNat
/-- What l08Ins answers. -/
def insS (k : Cd) (a : Nat) : Bool := insBat k a (entryAt k (procN k a)) (endP k (procN k a))

/-- What is known of code whose heads are right. -/
structure Head (k : Cd) : Prop where
  el : 1 ≤ k.entry.length
  nn : ∀ i, i < k.entry.length → 0 ≤ entryAt k i
  z : entryAt k 0 = 0
theorem head_of {k : Cd} (h : headsB k = true) : Head k := by
  simp only [headsB, Bool.and_eq_true, decide_eq_true_eq] at h
  obtain ⟨h1, h2, h3, h4, h5⟩ := h
  have hel : 1 ≤ k.entry.length := by rw [h2]; exact names_proc h1
  refine ⟨hel, rise_nonneg h4, ?_⟩
  have := List.all_eq_true.1 h4 0 (List.mem_range.2 (by omega))
  simp only [riseB, if_true, Bool.and_eq_true, decide_eq_true_eq] at this
  exact this.1
theorem Head.proc {k : Cd} (h : Head k) (a : Nat) : procI k a = procN k a ∧ procN k a < k.entry.length := by
  have h1 := procTo_nonneg (k := k) (a := a) h.el (by rw [h.z]; omega)
  have h2 := procTo_lt k a k.entry.length
  unfold procN procI
  omega

theorem l08Ins_bad {B L : Nat} (v : CV) (k : Cd) (a : Nat) (w : World) (hk : CodeAt w B v k) (hcb : CdB L k) (hL : L ≤ 1099511627776) (ha : a < k.ins.length) (h : ¬ (1 ≤ k.ins[a].op ∧ k.ins[a].op ≤ 9)) :
    Calls Try.prog 109 #[.agg #[.slice v.gA k.globals.length v.gc, .slice v.lA k.locks.length v.lc, .slice v.pA k.procs.length v.pc, .slice v.eA k.entry.length v.ec, .slice v.iA k.ins.length v.ic], .int .i64 a] w fun r w' => r = .returned (.bool false) ∧ Below w.heap.size w w' := by
  have hkf := hk.full
  have hil := hcb.ins
  obtain ⟨ai, A2, c2, ei, hbi, m0, m1, m2, m3, m4, m5, m6, mk⟩ := hkf.i.get ha
  generalize k.ins[a] = x at *
  have e1 : (x.op == 1) = false := by rw [beq_eq_false_iff_ne]; omega
  have e4 : (x.op == 4) = false := by rw [beq_eq_false_iff_ne]; omega
  have e5 : (x.op == 5) = false := by rw [beq_eq_false_iff_ne]; omega
  have e6 : (x.op == 6) = false := by rw [beq_eq_false_iff_ne]; omega
  have e7 : (x.op == 7) = false := by rw [beq_eq_false_iff_ne]; omega
  have HE := Lib.hid (show (decide (1 ≤ x.op) && decide (x.op ≤ 9)) = false from by simp; omega)
  clear h
  rw [ei]
  clear ei
  go_enter Try.func109, Try.ntmps109
  go_wp2_with (go_at_call 88; refine (l01In_any _ _ _ _).mono ?_; rintro e w' ⟨rfl, rfl⟩; rw [HE.out])
  go_ret
  exact ⟨rfl, below_alloc (below_alloc0 _ _) (Nat.le_refl _) _⟩

/-- The greatest Arg of an Op. -/
theorem most_in (x n : Nat) (y : Int) (h : (y : Int) < 0 ∨ (n : Int) ≤ y) : (decide (0 ≤ y) && decide (y ≤ (n : Int) - 1)) = false := by
  rcases h with h | h
  · rw [decide_eq_false (show ¬ 0 ≤ y from by omega)]; rfl
  · rw [decide_eq_false (show ¬ y ≤ (n : Int) - 1 from by omega)]; simp

set_option maxHeartbeats 8000000 in
theorem l08Ins_arg {B L : Nat} (v : CV) (k : Cd) (a : Nat) (w : World) (hk : CodeAt w B v k) (hcb : CdB L k) (hL : L ≤ 1099511627776) (ha : a < k.ins.length) (h1 : 1 ≤ k.ins[a].op) (h9 : k.ins[a].op ≤ 9) (h : ¬ (0 ≤ k.ins[a].arg ∧ k.ins[a].arg < argMost k k.ins[a].op)) :
    Calls Try.prog 109 #[.agg #[.slice v.gA k.globals.length v.gc, .slice v.lA k.locks.length v.lc, .slice v.pA k.procs.length v.pc, .slice v.eA k.entry.length v.ec, .slice v.iA k.ins.length v.ic], .int .i64 a] w fun r w' => r = .returned (.bool false) ∧ Below w.heap.size w w' := by
  have hkf := hk.full
  have hil := hcb.ins
  have hgl := hcb.globals
  have hll := hcb.locks
  have hpl := hcb.procs
  obtain ⟨ai, A2, c2, ei, hbi, m0, m1, m2, m3, m4, m5, m6, mk⟩ := hkf.i.get ha
  generalize k.ins[a] = x at *
  have hcase : x.op = 1 ∨ x.op = 2 ∨ x.op = 3 ∨ x.op = 4 ∨ x.op = 5 ∨ x.op = 6 ∨ x.op = 7 ∨ x.op = 8 ∨ x.op = 9 := by omega
  rw [ei]
  clear ei h1 h9
  have hm : ∀ n : Nat, argMost k x.op = n → Hid ((decide (0 ≤ x.arg) && decide (x.arg ≤ (n : Int) - 1)) = false) := by
    intro n hn
    rw [hn] at h
    exact most_in 0 n x.arg (by omega)
  rcases hcase with hop | hop | hop | hop | hop | hop | hop | hop | hop
  all_goals
    rw [hop] at m0 hm
    have HM := hm _ rfl
    simp only [argMost] at HM
    clear hm h hop
    first | simp only [Int.reduceEq, if_true] at HM | simp only [Int.reduceEq, if_false, or_self, or_true, true_or, or_false, false_or, if_true] at HM
    try simp only [Int.reduceEq, if_false, or_self, or_true, true_or, or_false, false_or, if_true] at HM
    go_enter Try.func109, Try.ntmps109
    go_wp2_with fail
    refine (l01In_any _ _ _ _).mono ?_
    rintro e w' ⟨rfl, rfl⟩
    go_wp2_with fail
    refine (l01In_any _ _ _ _).mono ?_
    rintro e w' ⟨rfl, rfl⟩
    first | rw [HM.out] | (have HM2 : (decide (0 ≤ x.arg) && decide (x.arg ≤ 0)) = false := (by have h := HM.out; rwa [show (((1 : Nat) : Int) - 1) = 0 from rfl] at h); rw [HM2])
    go_wp2_with fail
    go_ret
    exact ⟨rfl, below_alloc (below_alloc0 _ _) (Nat.le_refl _) _⟩
end Go.Proofs.Ytjnlmiekldflhaa
