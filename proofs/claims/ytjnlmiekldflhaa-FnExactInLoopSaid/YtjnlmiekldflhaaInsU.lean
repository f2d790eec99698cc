/- Contract of the reference's l08Ins: instructions without a term. -/
import Derived.Test.YtjnlmiekldflhaaInsS
set_option linter.unusedSimpArgs false
set_option linter.unusedVariables false
namespace Go.Proofs.Ytjnlmiekldflhaa
open Go.ChangeShapes Go.WideShapes Go.ChangeAt Go.RowKit

set_option maxHeartbeats 8000000 in
theorem l08Ins_zero {B L : Nat} (v : CV) (k : Cd) (a : Nat) (w : World) (hk : CodeAt w B v k) (hcb : CdB L k) (hL : L ≤ 1099511627776) (hd : Head k) (ha : a < k.ins.length) (hop : 4 ≤ k.ins[a].op) (hop9 : k.ins[a].op ≤ 9) (h1 : 0 ≤ k.ins[a].arg) (h2 : k.ins[a].arg < argMost k k.ins[a].op) :
    Calls Try.prog 109 #[.agg #[.slice v.gA k.globals.length v.gc, .slice v.lA k.locks.length v.lc, .slice v.pA k.procs.length v.pc, .slice v.eA k.entry.length v.ec, .slice v.iA k.ins.length v.ic], .int .i64 a] w fun r w' => r = .returned (.bool (insS k a)) ∧ Below w.heap.size w w' := by
  have hkf := hk.full
  have hil := hcb.ins
  have hgl := hcb.globals
  have hll := hcb.locks
  have hpl := hcb.procs
  have hel := hcb.entry
  have hxb := hcb.insB _ (List.getElem_mem ha)
  obtain ⟨hpq, hql⟩ := hd.proc a
  have fin : ∀ (y : Bool) w', y = insS k a → Below w.heap.size w w' → Ending.returned (.bool y) = .returned (.bool (insS k a)) ∧ Below w.heap.size w w' := fun y w' h1 h2 => ⟨by rw [h1], h2⟩
  have HN := Lib.hid (show insS k a = insB k k.ins[a] (entryAt k (procN k a)) (endP k (procN k a)) from by rw [insS, insBat, List.getElem?_eq_getElem ha])
  obtain ⟨ai, A2, c2, ei, hbi, m0, m1, m2, m3, m4, m5, m6, mk⟩ := hkf.i.get ha
  generalize k.ins[a] = x at *
  obtain ⟨f1, f2, f3, f4⟩ := hxb.term.fits
  have HEI := Lib.hid ei
  have HXB := Lib.hid hxb
  have HCB := Lib.hid hcb
  have HD := Lib.hid hd
  have HPQ := Lib.hid hpq
  clear hxb hcb hk hd hpq
  have hm : ∀ n : Nat, argMost k x.op = n → Hid ((decide (0 ≤ x.arg) && decide (x.arg ≤ (n : Int) - 1)) = true) := by
    intro n hn
    rw [hn] at h2
    exact Bool.and_eq_true_iff.2 ⟨decide_eq_true h1, decide_eq_true (by omega)⟩
  have H19 := Lib.hid (show (decide (1 ≤ x.op) && decide (x.op ≤ 9)) = true from Bool.and_eq_true_iff.2 ⟨decide_eq_true (by omega), decide_eq_true (by omega)⟩)
  have HZ := Lib.hid (sameTerm_zero x.term A2 c2)
  have HN2 := Lib.hid (show insS k a = (zeroB x.term && decide (x.to = 0)) from by
    rw [HN.out, insB, if_neg (by omega), if_neg (by omega), decide_eq_true (by omega), decide_eq_true (by omega), decide_eq_true h1, decide_eq_true h2]; simp)
  clear HN
  generalize zeroB x.term = z at HN2 HZ
  have hcase : x.op = 4 ∨ x.op = 5 ∨ x.op = 6 ∨ x.op = 7 ∨ x.op = 8 ∨ x.op = 9 := by omega
  clear hop hop9 h1 h2
  rcases hcase with hop | hop | hop | hop | hop | hop
  all_goals
    rw [hop] at hm
    have HM := hm _ rfl
    simp only [argMost] at HM
    clear hm
    first | simp only [Int.reduceEq, if_true] at HM | simp only [Int.reduceEq, if_false, or_self, or_true, true_or, or_false, false_or, if_true] at HM
    try simp only [Int.reduceEq, if_false, or_self, or_true, true_or, or_false, false_or, if_true] at HM
    first | (have e4 : (x.op == 4) = true := by rw [hop]; rfl) | (have e4 : (x.op == 4) = false := by rw [hop]; rfl)
    first | (have e5 : (x.op == 5) = true := by rw [hop]; rfl) | (have e5 : (x.op == 5) = false := by rw [hop]; rfl)
    first | (have e6 : (x.op == 6) = true := by rw [hop]; rfl) | (have e6 : (x.op == 6) = false := by rw [hop]; rfl)
    first | (have e7 : (x.op == 7) = true := by rw [hop]; rfl) | (have e7 : (x.op == 7) = false := by rw [hop]; rfl)
    have e1 : (x.op == 1) = false := by rw [hop]; rfl
    have e2 : (x.op == 2) = false := by rw [hop]; rfl
    have g2 : (x.op != 2) = true := by rw [hop]; rfl
    have g3 : (x.op != 3) = true := by rw [hop]; rfl
    rw [ei]
    clear ei hop
    go_enter Try.func109, Try.ntmps109
    go_wp2_with fail
    refine (l01In_any _ _ _ _).mono ?_
    rintro e w' ⟨rfl, rfl⟩
    rw [H19.out]
    go_wp2_with fail
    refine (l01In_any _ _ _ _).mono ?_
    rintro e w' ⟨rfl, rfl⟩
    first | rw [HM.out] | (have HM2 : (decide (0 ≤ x.arg) && decide (x.arg ≤ 0)) = true := (by have h := HM.out; rwa [show (((1 : Nat) : Int) - 1) = 0 from rfl] at h); rw [HM2])
    go_wp2_with fail
    rw [← HEI.out]
    have hbx := codeBox w v k
    have hix := insCells (w.alloc (.cells #[.slice v.gA k.globals.length v.gc, .slice v.lA k.locks.length v.lc, .slice v.pA k.procs.length v.pc, .slice v.eA k.entry.length v.ec, .slice v.iA k.ins.length v.ic] 33)) x A2 c2 (w.heap.size + 1) (by simp)
    have hbx := hbx.to (below_alloc0 _ (.cells #[.int .i64 x.op, .int .i64 x.arg, .int .i64 x.term.kind, .int .i64 x.term.num, .string x.term.name, .slice A2 x.term.kids.length c2, .int .i64 x.to] 57))
    generalize (w.alloc (.cells #[.slice v.gA k.globals.length v.gc, .slice v.lA k.locks.length v.lc, .slice v.pA k.procs.length v.pc, .slice v.eA k.entry.length v.ec, .slice v.iA k.ins.length v.ic] 33)).alloc (.cells #[.int .i64 x.op, .int .i64 x.arg, .int .i64 x.term.kind, .int .i64 x.term.num, .string x.term.name, .slice A2 x.term.kids.length c2, .int .i64 x.to] 57) = W at hbx hix ⊢
    obtain ⟨hb0, hs0, b0, b1, b2, b3, b4⟩ := id hbx
    obtain ⟨hs1, j0, j1, j2, j3, j4, j5, j6⟩ := id hix
    refine (HZ.out _ (by omega)).mono ?_
    rintro r w2 ⟨rfl, hb2⟩
    have k0 := cell_below hb2 j0
    have k6 := cell_below hb2 j6
    cases z
    · go_wp2_with fail
      go_ret
      exact fin _ _ (by rw [HN2.out]; rfl) (below_trans' hb0 hb2)
    · go_wp2_with fail
      go_ret
      refine fin _ _ ?_ (below_trans' hb0 hb2)
      rw [HN2.out, Bool.eq_iff_iff]
      simp
end Go.Proofs.Ytjnlmiekldflhaa
