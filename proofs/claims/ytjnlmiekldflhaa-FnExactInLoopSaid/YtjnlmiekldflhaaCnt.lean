/- How many terms hang below a term; sizes of code. No program is named. -/
import Derived.Test.YtjnlmiekldflhaaData
set_option linter.unusedSimpArgs false
set_option linter.unusedVariables false
namespace Go.Proofs.Ytjnlmiekldflhaa
mutual
/-- How many terms hang below this one. -/
def Tm.cnt : Tm → Nat
  | .mk _ _ _ ks => Tm.cntL ks
/-- How many terms there are in all. -/
def Tm.cntL : List Tm → Nat
  | [] => 0
  | t :: ts => 1 + Tm.cnt t + Tm.cntL ts
end
theorem Tm.cnt_kids (t : Tm) : t.cnt = Tm.cntL t.kids := by cases t; rw [Tm.cnt, Tm.kids]
theorem cntL_append (a b : List Tm) : Tm.cntL (a ++ b) = Tm.cntL a + Tm.cntL b := by
  induction a with
  | nil => simp [Tm.cntL]
  | cons t ts ih => simp only [List.cons_append, Tm.cntL, ih]; omega
theorem cntL_take {ks : List Tm} {j : Nat} (h : j < ks.length) : Tm.cntL (ks.take (j + 1)) = Tm.cntL (ks.take j) + 1 + ks[j].cnt := by
  rw [List.take_succ_eq_append_getElem h, cntL_append]
  simp [Tm.cntL]
  omega
theorem cntL_ge (ks : List Tm) : ks.length ≤ Tm.cntL ks := by
  induction ks with
  | nil => simp
  | cons t ts ih => simp only [List.length_cons, Tm.cntL]; omega
theorem cntL_take_le (ks : List Tm) (j : Nat) : Tm.cntL (ks.take j) ≤ Tm.cntL ks := by
  have := cntL_append (ks.take j) (ks.drop j)
  rw [List.take_append_drop] at this
  omega
/-- The same of instructions: one each, and their terms. -/
def insCnt (xs : List Is) : Nat := (xs.map fun x => 1 + x.term.cnt).sum
theorem insCnt_take {ks : List Is} {j : Nat} (h : j < ks.length) : insCnt (ks.take (j + 1)) = insCnt (ks.take j) + 1 + ks[j].term.cnt := by
  rw [insCnt, insCnt, List.take_succ_eq_append_getElem h, List.map_append, List.sum_append]
  simp only [List.map_cons, List.map_nil, List.sum_cons, List.sum_nil]
  omega
theorem insCnt_take_le (ks : List Is) (j : Nat) : insCnt (ks.take j) ≤ insCnt ks := by
  have : insCnt ks = insCnt (ks.take j) + insCnt (ks.drop j) := by
    rw [insCnt, insCnt, insCnt, ← List.sum_append, ← List.map_append, List.take_append_drop]
  omega
theorem insCnt_ge (ks : List Is) : ks.length ≤ insCnt ks := by
  induction ks with
  | nil => simp
  | cons t ts ih =>
    have : insCnt (t :: ts) = (1 + t.term.cnt) + insCnt ts := by simp [insCnt]
    simp only [List.length_cons]
    omega
/-- The size of code. -/
def Cd.cnt (k : Cd) : Nat := k.globals.length + k.locks.length + k.procs.length + k.entry.length + insCnt k.ins
end Go.Proofs.Ytjnlmiekldflhaa
