/- What is known of right code, in plain numbers. -/
import Derived.Test.YtjnlmiekldflhaaCodeEq
set_option linter.unusedSimpArgs false
set_option linter.unusedVariables false
namespace Go.Proofs.Ytjnlmiekldflhaa

/-- The place where procedure p begins, and the first behind it. -/
def ent (k : Cd) (p : Nat) : Nat := (entryAt k p).toNat
def fin (k : Cd) (p : Nat) : Nat := (endP k p).toNat

/-- What is known of right code. -/
structure Right (k : Cd) : Prop where
  ins : k.ins.length ≤ 1500
  globals : k.globals.length ≤ 6
  locks : k.locks.length ≤ 6
  procs : k.procs.length ≤ 8
  main : mainS ∈ k.procs
  nodup : k.procs.Nodup
  entry : k.entry.length = k.procs.length
  ent_eq : ∀ p (h : p < k.entry.length), k.entry[p] = ent k p
  fin_eq : ∀ p, p < k.procs.length → endP k p = fin k p
  zero : ent k 0 = 0
  next : ∀ p, p + 1 < k.procs.length → fin k p = ent k (p + 1)
  last : fin k (k.procs.length - 1) = k.ins.length
  lt : ∀ p, p < k.procs.length → ent k p < fin k p ∧ fin k p ≤ k.ins.length
  proc : ∀ a, a < k.ins.length → procN k a < k.procs.length ∧ ent k (procN k a) ≤ a ∧ a < fin k (procN k a)
  op : ∀ a (h : a < k.ins.length), 1 ≤ k.ins[a].op ∧ k.ins[a].op ≤ 9
  arg : ∀ a (h : a < k.ins.length), 0 ≤ k.ins[a].arg ∧ k.ins[a].arg < argMost k k.ins[a].op
  to : ∀ a (h : a < k.ins.length), k.ins[a].op = 2 ∨ k.ins[a].op = 3 → (ent k (procN k a) : Int) ≤ k.ins[a].to ∧ k.ins[a].to < fin k (procN k a)
  stop : ∀ a (h : a < k.ins.length), k.ins[a].op = 9 ↔ a + 1 = fin k (procN k a)

theorem right_of {k : Cd} (h : codeOkI k = true) : Right k := by
  have hS := h
  rw [codeOk_eq] at hS
  unfold codeOkS headsB at hS
  simp only [Bool.and_eq_true, decide_eq_true_eq, List.all_eq_true, List.mem_range] at hS
  obtain ⟨⟨hn, he, hi, hr, hend⟩, hins⟩ := hS
  obtain ⟨n1, n2, n3, _, _, n6, n7⟩ := namesB_parts hn
  have hel : 1 ≤ k.entry.length := by rw [he]; exact names_proc hn
  have h0 : entryAt k 0 = 0 := by
    have := hr 0 hel
    simp only [riseB, if_true, Bool.and_eq_true, decide_eq_true_eq] at this
    exact this.1
  have nn : ∀ p, p < k.entry.length → 0 ≤ entryAt k p := fun p hp => rise_nonneg (List.all_eq_true.2 fun i hi => hr i (List.mem_range.1 hi)) p hp
  have bd : ∀ p, p < k.entry.length → entryAt k p < endP k p ∧ endP k p ≤ k.ins.length := fun p hp => endP_bounds hr h0 hel hp
  have entc : ∀ p, p < k.entry.length → (ent k p : Int) = entryAt k p := fun p hp => Int.toNat_of_nonneg (nn p hp)
  have finc : ∀ p, p < k.entry.length → (fin k p : Int) = endP k p := fun p hp => Int.toNat_of_nonneg (by have := nn p hp; have := bd p hp; omega)
  have pin : ∀ a, a < k.ins.length → procN k a < k.entry.length ∧ entryAt k (procN k a) ≤ a ∧ (a : Int) < endP k (procN k a) := fun a ha => by
    obtain ⟨i, h1, h2, h3, h4⟩ := proc_in hr h0 hel ha
    have e : procN k a = i := by show (procI k a).toNat = i; omega
    rw [e]
    exact ⟨h1, h3, h4⟩
  simp only [areNamesB, Bool.and_eq_true, decide_eq_true_eq] at n1 n2 n3
  have insf : ∀ a (ha : a < k.ins.length), insB k k.ins[a] (entryAt k (procN k a)) (endP k (procN k a)) = true := fun a ha => by
    have := hins a ha
    simpa [insS, insBat, ha] using this
  refine ⟨hi, n1.1, n2.1, n3.1, n7, by simpa [twiceB] using n6, he, ?_, ?_, ?_, ?_, ?_, ?_, ?_, ?_, ?_, ?_, ?_⟩
  · intro p hp
    rw [entc p hp, entryAt_eq k p hp]
  · intro p hp
    exact (finc p (by omega)).symm
  · have := entc 0 hel
    omega
  · intro p hp
    have h1 := finc p (by omega)
    have h2 := entc (p + 1) (by omega)
    rw [endP_next (by omega)] at h1
    omega
  · have h1 := finc (k.procs.length - 1) (by omega)
    rw [endP_last (by omega)] at h1
    omega
  · intro p hp
    have h1 := finc p (by omega)
    have h2 := entc p (by omega)
    have h3 := bd p (by omega)
    omega
  · intro a ha
    obtain ⟨p1, p2, p3⟩ := pin a ha
    have h1 := finc _ p1
    have h2 := entc _ p1
    omega
  · intro a ha
    have := insf a ha
    simp only [insB, Bool.and_eq_true, decide_eq_true_eq] at this
    exact ⟨this.1.1, this.1.2.1⟩
  · intro a ha
    have := insf a ha
    simp only [insB, Bool.and_eq_true, decide_eq_true_eq] at this
    exact ⟨this.1.2.2.1, this.1.2.2.2⟩
  · intro a ha hop
    have := insf a ha
    simp only [insB, Bool.and_eq_true, decide_eq_true_eq, if_pos hop] at this
    obtain ⟨p1, p2, p3⟩ := pin a ha
    have h1 := finc _ p1
    have h2 := entc _ p1
    have h3 := this.2.2
    omega
  · intro a ha
    have he2 := hend a ha
    obtain ⟨p1, p2, p3⟩ := pin a ha
    have h1 := finc _ p1
    have e : endP k (procI k a).toNat = endP k (procN k a) := rfl
    simp only [endB, e, opAt_nat k a ha, beq_iff_eq, decide_eq_decide] at he2
    omega
end Go.Proofs.Ytjnlmiekldflhaa
