/- Plain facts of roots, of single ones, and of two places where two threads may be. No program is named. -/
import Derived.Test.YtfecdgjnncpcjaaGreatF1
import Derived.Test.YtfecdgjnncpcjaaGreatD13
set_option linter.unusedSimpArgs false
set_option linter.unusedVariables false
namespace Go.Proofs.YtfecdgjnncpcjaaGreat
open Classical

/-- Just one thread begins with x, a root. -/
def SingP (k : Cd) (x : Nat) : Prop :=
  if x = mainN k then startsL k x = []
  else (startsL k x).length = 1 ∧ procN k (gt (startsL k x) 0) = mainN k ∧ ¬ Reach (nextL k) (gt (startsL k x) 0) (gt (startsL k x) 0) ∧ startsL k (mainN k) = [] ∧ ∀ p, UsedP k p → ¬ OpsP k 4 p (mainN k)
/-- It is a root, and single. -/
def SingR (k : Cd) (x : Nat) : Prop := RootP k x ∧ SingP k x
noncomputable def singB (k : Cd) (x : Nat) : Bool := decide (SingR k x)
theorem singB_yes {k : Cd} {x : Nat} (h : SingR k x) : singB k x = true := decide_eq_true h
theorem singB_no {k : Cd} {x : Nat} (h : ¬ SingR k x) : singB k x = false := decide_eq_false h
theorem singB_iff {k : Cd} {x : Nat} : singB k x = true ↔ SingR k x := decide_eq_true_iff
noncomputable def nilB (l : List Nat) : Bool := decide (l = [])
theorem nilB_yes {l : List Nat} (h : l = []) : nilB l = true := decide_eq_true h
theorem nilB_no {l : List Nat} (h : ¬ l = []) : nilB l = false := decide_eq_false h
theorem main_root (k : Cd) : RootP k (mainN k) := Comes.refl _ _
/-- The roots of a place. -/
def AtP (k : Cd) (a r : Nat) : Prop := LiveA k a ∧ RootP k r ∧ FromP k r (procN k a)
noncomputable def atN (k : Cd) (a : Nat) : Nat := setN k.procs.length (AtP k a)
theorem atN_dead {k : Cd} {a : Nat} (h : ¬ LiveA k a) : atN k a = 0 := by
  refine (eq_setN (Nat.two_pow_pos _) fun i _ => ?_).symm
  simp [AtP, h]
noncomputable def singN (k : Cd) : Nat := setN k.procs.length (SingR k)
/-- Two threads, one in a and one in b. -/
def BesideP (k : Cd) (a b : Nat) : Prop := ∃ r s, AtP k a r ∧ AtP k b s ∧ (r ≠ s ∨ ¬ SingR k r)
noncomputable def besideB (k : Cd) (a b : Nat) : Bool := decide (BesideP k a b)
theorem at_lt {k : Cd} (hr : Right k) {a r : Nat} (h : AtP k a r) : r < k.procs.length := root_lt hr h.2.1
/-- What apart answers. -/
def apartB (a b s : Nat) : Bool := if a = 0 ∨ b = 0 then false else (andNot (a &&& b) s != 0) || (a != b) || (a &&& (a - 1) != 0)
theorem bit_pred {a r s : Nat} (h : r < s) (h1 : a.testBit r = true) (h2 : a.testBit s = true) : (a - 1).testBit s = true := by
  have hm : 0 < a % 2 ^ s := by
    rcases Nat.eq_zero_or_pos (a % 2 ^ s) with h3 | h3
    · have h4 : (a % 2 ^ s).testBit r = true := by rw [Nat.testBit_mod_two_pow, h1]; simpa using h
      rw [h3] at h4
      simp at h4
    · exact h3
  have hp := Nat.two_pow_pos s
  have hd := Nat.div_add_mod a (2 ^ s)
  have e : (a - 1) / 2 ^ s = a / 2 ^ s := by
    have hlt := Nat.mod_lt a hp
    generalize a / 2 ^ s = q at *
    generalize a % 2 ^ s = m at *
    have : a - 1 = (m - 1) + 2 ^ s * q := by omega
    rw [this, Nat.add_mul_div_left _ _ hp, Nat.div_eq_of_lt (by omega)]
    omega
  rw [Nat.testBit_eq_decide_div_mod_eq] at h2 ⊢
  rw [e]
  exact h2
theorem exists_bit {a : Nat} (h : a ≠ 0) : ∃ i, a.testBit i = true := by
  apply Classical.byContradiction
  intro hn
  refine h (Nat.eq_of_testBit_eq fun i => ?_)
  rw [Nat.zero_testBit]
  cases hi : a.testBit i
  · rfl
  · exact absurd ⟨i, hi⟩ hn
theorem one_bit {a r : Nat} (h : a.testBit r = true) (h1 : ∀ s, a.testBit s = true → s = r) : a &&& (a - 1) = 0 := by
  have e : a = 2 ^ r := by
    refine Nat.eq_of_testBit_eq fun i => ?_
    rw [Nat.testBit_two_pow, Bool.eq_iff_iff, decide_eq_true_iff]
    exact ⟨fun h2 => (h1 i h2).symm, fun h2 => by rw [← h2]; exact h⟩
  subst e
  refine Nat.eq_of_testBit_eq fun i => ?_
  rw [Nat.testBit_and, Nat.zero_testBit, Nat.testBit_two_pow, Nat.testBit_two_pow_sub_one]
  by_cases e : r = i
  · simp [e]
  · simp [e]
theorem apart_iff {a b s : Nat} (ha : a < 256) (hb : b < 256) (hs : s < 256) : apartB a b s = true ↔ ∃ r t, a.testBit r = true ∧ b.testBit t = true ∧ (r ≠ t ∨ s.testBit r = false) := by
  unfold apartB
  by_cases h0 : a = 0 ∨ b = 0
  · rw [if_pos h0]
    constructor
    · intro h; exact absurd h (by simp)
    · rintro ⟨r, t, h1, h2, _⟩
      rcases h0 with rfl | rfl
      · simp at h1
      · simp at h2
  · rw [if_neg h0]
    have ha0 : a ≠ 0 := fun h => h0 (.inl h)
    have hb0 : b ≠ 0 := fun h => h0 (.inr h)
    simp only [Bool.or_eq_true, bne_iff_ne, ne_eq]
    have hab : a &&& b < 9223372036854775808 := Nat.lt_of_le_of_lt Nat.and_le_left (by omega)
    constructor
    · rintro ((h | h) | h)
      · obtain ⟨i, hi⟩ := exists_bit h
        rw [testBit_andNot _ _ _ hab (by omega), Nat.testBit_and, Bool.and_eq_true, Bool.and_eq_true] at hi
        exact ⟨i, i, hi.1.1, hi.1.2, .inr (by simpa using hi.2)⟩
      · apply Classical.byContradiction
        intro hn
        have hx : ∀ r t, a.testBit r = true → b.testBit t = true → r = t := fun r t h1 h2 => by
          apply Classical.byContradiction
          intro h3
          exact hn ⟨r, t, h1, h2, .inl h3⟩
        obtain ⟨r, hr⟩ := exists_bit ha0
        obtain ⟨t, ht⟩ := exists_bit hb0
        refine h (Nat.eq_of_testBit_eq fun i => ?_)
        rw [Bool.eq_iff_iff]
        exact ⟨fun h1 => by rw [hx i t h1 ht]; exact ht, fun h1 => by rw [← hx r i hr h1]; exact hr⟩
      · by_cases e : a = b
        · subst e
          obtain ⟨r, hr⟩ := exists_bit ha0
          apply Classical.byContradiction
          intro hn
          refine h (one_bit hr fun t ht => ?_)
          apply Classical.byContradiction
          intro h3
          exact hn ⟨t, r, ht, hr, .inl h3⟩
        · apply Classical.byContradiction
          intro hn
          have hx : ∀ r t, a.testBit r = true → b.testBit t = true → r = t := fun r t h1 h2 => by
            apply Classical.byContradiction
            intro h3
            exact hn ⟨r, t, h1, h2, .inl h3⟩
          obtain ⟨r, hr⟩ := exists_bit ha0
          obtain ⟨t, ht⟩ := exists_bit hb0
          refine e (Nat.eq_of_testBit_eq fun i => ?_)
          rw [Bool.eq_iff_iff]
          exact ⟨fun h1 => by rw [hx i t h1 ht]; exact ht, fun h1 => by rw [← hx r i hr h1]; exact hr⟩
    · rintro ⟨r, t, h1, h2, h3⟩
      by_cases e : a = b
      · subst e
        by_cases e2 : r = t
        · subst e2
          rcases h3 with h3 | h3
          · exact absurd rfl h3
          · refine .inl (.inl fun h => ?_)
            have h4 : (andNot (a &&& a) s).testBit r = true := by
              rw [testBit_andNot _ _ _ hab (by omega), Nat.testBit_and, h1, h3]; rfl
            rw [h] at h4
            simp at h4
        · refine .inr fun h => ?_
          rcases Nat.lt_or_ge r t with hlt | hge
          · have h4 : (a &&& (a - 1)).testBit t = true := by rw [Nat.testBit_and, h2, bit_pred hlt h1 h2]; rfl
            rw [h] at h4
            simp at h4
          · have h4 : (a &&& (a - 1)).testBit r = true := by rw [Nat.testBit_and, h1, bit_pred (by omega : t < r) h2 h1]; rfl
            rw [h] at h4
            simp at h4
      · exact .inl (.inr e)
theorem beside_eq {k : Cd} (hr : Right k) (a b : Nat) : apartB (atN k a) (atN k b) (singN k) = besideB k a b := by
  have h8 := pow_le_256 hr
  have hlt : ∀ P : Nat → Prop, setN k.procs.length P < 256 := fun P => Nat.lt_of_lt_of_le (setN_lt _ _) h8
  unfold atN singN besideB
  rw [Bool.eq_iff_iff, apart_iff (hlt _) (hlt _) (hlt _), decide_eq_true_iff]
  constructor
  · rintro ⟨r, t, h1, h2, h3⟩
    have h1 := testBit_setN_true.1 h1
    refine ⟨r, t, h1.2, (testBit_setN_true.1 h2).2, h3.imp id fun h4 h5 => ?_⟩
    rw [testBit_setN, decide_eq_true (And.intro h1.1 h5)] at h4
    simp at h4
  · rintro ⟨r, t, h1, h2, h3⟩
    refine ⟨r, t, testBit_setN_true.2 ⟨at_lt hr h1, h1⟩, testBit_setN_true.2 ⟨at_lt hr h2, h2⟩, h3.imp id fun h4 => ?_⟩
    rw [testBit_setN]
    simp [h4]
end Go.Proofs.YtfecdgjnncpcjaaGreat
