/- What comes next in right code, what one comes to, who is called and started. No program is named. -/
import Derived.Test.YtjnlmiekldflhaaRight
import Derived.Test.YtjnlmiekldflhaaGraph
set_option linter.unusedSimpArgs false
set_option linter.unusedVariables false
namespace Go.Proofs.Ytjnlmiekldflhaa
open Classical

/-- The operation, the argument and the aim of a place. -/
def opN (k : Cd) (a : Nat) : Int := ((k.ins[a]?).map Is.op).getD 0
def argN (k : Cd) (a : Nat) : Nat := (((k.ins[a]?).map Is.arg).getD 0).toNat
def toN (k : Cd) (a : Nat) : Nat := (((k.ins[a]?).map Is.to).getD 0).toNat
theorem opN_eq {k : Cd} {a : Nat} (h : a < k.ins.length) : k.ins[a].op = opN k a := by simp [opN, h]
theorem argN_eq {k : Cd} (hr : Right k) {a : Nat} (h : a < k.ins.length) : k.ins[a].arg = argN k a := by
  have := hr.arg a h
  simp [argN, h]
  omega
theorem toN_eq {k : Cd} (hr : Right k) {a : Nat} (h : a < k.ins.length) (ho : opN k a = 2 ∨ opN k a = 3) : k.ins[a].to = toN k a := by
  have := hr.to a h (by rw [opN_eq h]; exact ho)
  simp [toN, h]
  omega
/-- What comes next. -/
def nextL (k : Cd) (a : Nat) : List Nat :=
  if opN k a = 9 then [] else if opN k a = 3 then [toN k a] else if opN k a = 2 ∧ toN k a ≠ a + 1 then [a + 1, toN k a] else [a + 1]
theorem nextL_len (k : Cd) (a : Nat) : (nextL k a).length ≤ 2 := by
  unfold nextL
  repeat' split
  all_goals simp

theorem ent_mono {k : Cd} (hr : Right k) (p d : Nat) (h : p + d < k.procs.length) : ent k p ≤ ent k (p + d) := by
  induction d with
  | zero => exact Nat.le_refl _
  | succ d ih =>
    have h1 := ih (by omega)
    have h2 := hr.next (p + d) (by omega)
    have h3 := hr.lt (p + d) (by omega)
    have e : p + (d + 1) = p + d + 1 := by omega
    rw [e]
    omega
theorem procN_of {k : Cd} (hr : Right k) {p a : Nat} (hp : p < k.procs.length) (h1 : ent k p ≤ a) (h2 : a < fin k p) : procN k a = p := by
  have hl := (hr.lt p hp).2
  obtain ⟨q1, q2, q3⟩ := hr.proc a (by omega)
  generalize procN k a = q at *
  rcases Nat.lt_trichotomy q p with h | h | h
  · have := ent_mono hr (q + 1) (p - (q + 1)) (by omega)
    rw [← hr.next q (by omega)] at this
    have e : q + 1 + (p - (q + 1)) = p := by omega
    rw [e] at this
    omega
  · exact h
  · have := ent_mono hr (p + 1) (q - (p + 1)) (by omega)
    rw [← hr.next p (by omega)] at this
    have e : p + 1 + (q - (p + 1)) = q := by omega
    rw [e] at this
    omega
theorem nextL_in {k : Cd} (hr : Right k) {a n : Nat} (ha : a < k.ins.length) (hn : n ∈ nextL k a) : n < k.ins.length ∧ procN k n = procN k a := by
  obtain ⟨p1, p2, p3⟩ := hr.proc a ha
  have hl := (hr.lt _ p1).2
  have hstop := hr.stop a ha
  rw [opN_eq ha] at hstop
  have key : ent k (procN k a) ≤ n ∧ n < fin k (procN k a) := by
    unfold nextL at hn
    split at hn
    · simp at hn
    · rename_i h9
      have h10 : ¬ a + 1 = fin k (procN k a) := fun h => h9 (hstop.2 h)
      split at hn
      · rename_i h3
        have ht := hr.to a ha (by rw [opN_eq ha]; exact .inr h3)
        rw [toN_eq hr ha (.inr h3)] at ht
        simp at hn
        subst hn
        omega
      · split at hn
        · rename_i h2
          have ht := hr.to a ha (by rw [opN_eq ha]; exact .inl h2.1)
          rw [toN_eq hr ha (.inl h2.1)] at ht
          simp at hn
          rcases hn with rfl | rfl <;> omega
        · simp at hn
          subst hn
          omega
  exact ⟨by omega, procN_of hr p1 key.1 key.2⟩
theorem ent_lt {k : Cd} (hr : Right k) {p : Nat} (hp : p < k.procs.length) : ent k p < k.ins.length := by
  have := hr.lt p hp
  omega
theorem procN_ent {k : Cd} (hr : Right k) {p : Nat} (hp : p < k.procs.length) : procN k (ent k p) = p := procN_of hr hp (Nat.le_refl _) (hr.lt p hp).1
theorem procN_fin {k : Cd} (hr : Right k) {p : Nat} (hp : p < k.procs.length) : procN k (fin k p - 1) = p := by
  have := hr.lt p hp
  exact procN_of hr hp (by omega) (by omega)
theorem comes_in {k : Cd} (hr : Right k) {a b : Nat} (ha : a < k.ins.length) (h : Comes (nextL k) a b) : b < k.ins.length ∧ procN k b = procN k a :=
  h.inv (P := fun b => b < k.ins.length ∧ procN k b = procN k a) ⟨ha, rfl⟩ fun x hx n hn => by
    have := nextL_in hr hx.1 hn
    exact ⟨this.1, this.2.trans hx.2⟩
theorem reach_in {k : Cd} (hr : Right k) {a b : Nat} (ha : a < k.ins.length) (h : Reach (nextL k) a b) : b < k.ins.length ∧ procN k b = procN k a := comes_in hr ha (.inr h)

/-- The place is come to from where procedure p begins. -/
def LiveP (k : Cd) (p a : Nat) : Prop := Comes (nextL k) (ent k p) a
theorem live_in {k : Cd} (hr : Right k) {p a : Nat} (hp : p < k.procs.length) (h : LiveP k p a) : a < k.ins.length ∧ procN k a = p ∧ ent k p ≤ a ∧ a < fin k p := by
  obtain ⟨h1, h2⟩ := comes_in hr (ent_lt hr hp) h
  rw [procN_ent hr hp] at h2
  obtain ⟨q1, q2, q3⟩ := hr.proc a h1
  rw [h2] at q2 q3
  exact ⟨h1, h2, q2, q3⟩
/-- It is come to from where its own procedure begins. -/
def LiveA (k : Cd) (a : Nat) : Prop := LiveP k (procN k a) a
/-- A live instruction of p with operation o names q. -/
def OpsP (k : Cd) (o : Int) (p q : Nat) : Prop := ∃ a, LiveP k p a ∧ opN k a = o ∧ argN k a = q
theorem argN_lt {k : Cd} (hr : Right k) {a : Nat} (ha : a < k.ins.length) (ho : opN k a = 4 ∨ opN k a = 5) : argN k a < k.procs.length := by
  have := hr.arg a ha
  rw [argN_eq hr ha, opN_eq ha, argMost, if_neg (by omega), if_pos ho] at this
  omega
theorem argN_lt6 {k : Cd} (hr : Right k) {a : Nat} (ha : a < k.ins.length) (ho : opN k a = 6 ∨ opN k a = 7) : argN k a < k.locks.length := by
  have := hr.arg a ha
  rw [argN_eq hr ha, opN_eq ha, argMost, if_neg (by omega), if_neg (by omega), if_pos ho] at this
  omega
theorem argN_lt1 {k : Cd} (hr : Right k) {a : Nat} (ha : a < k.ins.length) (ho : opN k a = 1) : argN k a < k.globals.length := by
  have := hr.arg a ha
  rw [argN_eq hr ha, opN_eq ha, argMost, if_pos ho] at this
  omega
theorem ops_lt {k : Cd} (hr : Right k) {o : Int} {p q : Nat} (hp : p < k.procs.length) (ho : o = 4 ∨ o = 5) (h : OpsP k o p q) : q < k.procs.length := by
  obtain ⟨a, h1, h2, rfl⟩ := h
  exact argN_lt hr (live_in hr hp h1).1 (by rw [h2]; exact ho)
/-- Whom p calls. -/
noncomputable def callL (k : Cd) (p : Nat) : List Nat := listN k.procs.length (OpsP k 4 p)
/-- What is called from p, p itself too. -/
def FromP (k : Cd) (p q : Nat) : Prop := Comes (callL k) p q
theorem from_lt {k : Cd} {p q : Nat} (hp : p < k.procs.length) (h : FromP k p q) : q < k.procs.length :=
  h.inv (P := fun q => q < k.procs.length) hp fun x _ n hn => (mem_listN.1 hn).1
/-- main's number. -/
def mainN (k : Cd) : Nat := k.procs.idxOf mainS
theorem mainN_lt {k : Cd} (hr : Right k) : mainN k < k.procs.length := List.idxOf_lt_length_of_mem hr.main
/-- Whom a root starts. -/
noncomputable def startL (k : Cd) (r : Nat) : List Nat := listN k.procs.length fun s => ∃ q, FromP k r q ∧ OpsP k 5 q s
/-- Threads begin with it. -/
def RootP (k : Cd) (r : Nat) : Prop := Comes (startL k) (mainN k) r
theorem root_lt {k : Cd} (hr : Right k) {r : Nat} (h : RootP k r) : r < k.procs.length :=
  h.inv (P := fun q => q < k.procs.length) (mainN_lt hr) fun x _ n hn => (mem_listN.1 hn).1
/-- A thread may be in it. -/
def UsedP (k : Cd) (q : Nat) : Prop := ∃ r, RootP k r ∧ FromP k r q
theorem used_lt {k : Cd} (hr : Right k) {q : Nat} (h : UsedP k q) : q < k.procs.length := by
  obtain ⟨r, h1, h2⟩ := h
  exact from_lt (root_lt hr h1) h2

/-- All that is in one of the sets with the numbers in which. -/
def unionN (ss : List Nat) (which : List Nat) : Nat := which.foldl (fun s i => s ||| (ss[i]?).getD 0) 0
theorem testBit_foldl_or (ss : List Nat) (which : List Nat) (s j : Nat) : (which.foldl (fun s i => s ||| (ss[i]?).getD 0) s).testBit j = true ↔ s.testBit j = true ∨ ∃ i ∈ which, ((ss[i]?).getD 0).testBit j = true := by
  induction which generalizing s with
  | nil => simp
  | cons i r ih =>
    rw [List.foldl_cons, ih]
    simp only [Nat.testBit_or, Bool.or_eq_true, List.mem_cons]
    constructor
    · rintro ((h | h) | ⟨x, h1, h2⟩)
      · exact .inl h
      · exact .inr ⟨i, .inl rfl, h⟩
      · exact .inr ⟨x, .inr h1, h2⟩
    · rintro (h | ⟨x, rfl | h1, h2⟩)
      · exact .inl (.inl h)
      · exact .inl (.inr h2)
      · exact .inr ⟨x, h1, h2⟩
theorem testBit_unionN (ss which : List Nat) (j : Nat) : (unionN ss which).testBit j = true ↔ ∃ i ∈ which, ((ss[i]?).getD 0).testBit j = true := by
  rw [unionN, testBit_foldl_or]; simp
end Go.Proofs.Ytjnlmiekldflhaa
