/- What belongs together in a graph: ways by the method of Warshall; parts, told one by one. No program is named. -/
import Derived.Test.YtkgoajnnkimkaaaA1
set_option linter.unusedSimpArgs false
set_option linter.unusedVariables false
namespace Go.Proofs.Ytkgoajnnkimkaaa

/-- Ways whose inner nodes are below the number. -/
def wsh (R : Nat → Nat → Bool) : Nat → Nat → Nat → Bool
  | 0, i, j => R i j
  | k + 1, i, j => wsh R k i j || (wsh R k i k && wsh R k k j)
theorem wsh_row (R : Nat → Nat → Bool) (k j : Nat) : wsh R (k + 1) k j = wsh R k k j := by
  rw [wsh]; cases wsh R k k k <;> cases wsh R k k j <;> rfl
theorem wsh_trans (R : Nat → Nat → Bool) (k : Nat) : ∀ i m j, m < k → wsh R k i m = true → wsh R k m j = true → wsh R k i j = true := by
  induction k with
  | zero => intro i m j h; omega
  | succ k ih =>
    intro i m j hm h1 h2
    simp only [wsh, Bool.or_eq_true, Bool.and_eq_true] at h1 h2 ⊢
    rcases Nat.lt_or_ge m k with h | h
    · rcases h1 with h1 | ⟨h1, h1'⟩
      · rcases h2 with h2 | ⟨h2, h2'⟩
        · exact .inl (ih i m j h h1 h2)
        · exact .inr ⟨ih i m k h h1 h2, h2'⟩
      · rcases h2 with h2 | ⟨h2, h2'⟩
        · exact .inr ⟨h1, ih k m j h h1' h2⟩
        · exact .inr ⟨h1, h2'⟩
    · have e : m = k := by omega
      subst e
      have h3 : wsh R m i m = true := by rcases h1 with h1 | ⟨h1, _⟩ <;> exact h1
      have h4 : wsh R m m j = true := by rcases h2 with h2 | ⟨_, h2⟩ <;> exact h2
      exact .inr ⟨h3, h4⟩

/-- Both ways. -/
def both2 (W : Nat → Nat → Bool) (i j : Nat) : Bool := decide (j = i) || (W i j && W j i)
/-- i is the next to be told: it is not told, and all that it comes to comes back, or is told. -/
def okB (W : Nat → Nat → Bool) (n : Nat) (D : List Bool) (i : Nat) : Bool := !mkd D i && (List.range n).all fun j => !W i j || (W j i || mkd D j)
/-- The part of i. -/
def partL (W : Nat → Nat → Bool) (n i : Nat) : List Nat := (List.range n).filter (both2 W i)
/-- It is told now. -/
def tell (W : Nat → Nat → Bool) (n i : Nat) (D : List Bool) : List Bool := (List.range n).map fun j => mkd D j || both2 W i j
/-- The first to be told. -/
def firstB (W : Nat → Nat → Bool) (n : Nat) (D : List Bool) : Option Nat := (List.range n).find? (okB W n D)
/-- The parts, one by one. -/
def compsF (W : Nat → Nat → Bool) (n : Nat) : Nat → List Bool → List (List Nat)
  | 0, _ => []
  | f + 1, D => match firstB W n D with
    | none => []
    | some i => partL W n i :: compsF W n f (tell W n i D)

/-- What is told is told whole. -/
def Whole (W : Nat → Nat → Bool) (n : Nat) (D : List Bool) : Prop := D.length = n ∧ ∀ i j, i < n → j < n → both2 W i j = true → mkd D i = mkd D j
section
variable {W : Nat → Nat → Bool} {n : Nat} {D : List Bool}
theorem both2_refl (i : Nat) : both2 W i i = true := by simp [both2]
theorem both2_symm {i j : Nat} (h : both2 W i j = true) : both2 W j i = true := by
  simp only [both2, Bool.or_eq_true, Bool.and_eq_true, decide_eq_true_eq] at h ⊢
  rcases h with h | ⟨h1, h2⟩
  · exact .inl h.symm
  · exact .inr ⟨h2, h1⟩
theorem both2_trans (ht : ∀ i m j, m < n → W i m = true → W m j = true → W i j = true) {i j l : Nat} (hj : j < n) (h : both2 W i j = true) (g : both2 W j l = true) : both2 W i l = true := by
  simp only [both2, Bool.or_eq_true, Bool.and_eq_true, decide_eq_true_eq] at h g ⊢
  rcases h with rfl | ⟨h1, h2⟩
  · exact g
  · rcases g with rfl | ⟨g1, g2⟩
    · exact .inr ⟨h1, h2⟩
    · exact .inr ⟨ht i j l hj h1 g1, ht l j i hj g2 h2⟩
theorem tell_len (i : Nat) : (tell W n i D).length = n := by simp [tell]
theorem mkd_tell {i j : Nat} (hj : j < n) : mkd (tell W n i D) j = (mkd D j || both2 W i j) := by simp [tell, mkd, hj]
theorem whole_tell (ht : ∀ i m j, m < n → W i m = true → W m j = true → W i j = true) (h : Whole W n D) {i : Nat} (hi : i < n) : Whole W n (tell W n i D) := by
  refine ⟨tell_len i, fun a b ha hb hab => ?_⟩
  rw [mkd_tell ha, mkd_tell hb, h.2 a b ha hb hab]
  congr 1
  rw [Bool.eq_iff_iff]
  exact ⟨fun h1 => both2_trans ht ha h1 hab, fun h1 => both2_trans ht hb h1 (both2_symm hab)⟩
theorem whole_start : Whole W n (List.replicate n false) := ⟨by simp, fun i j _ _ _ => by rw [mkd_replicate, mkd_replicate]⟩
/-- How many numbers below n are in a list of marks. -/
theorem unm_map (f g : Nat → Bool) (l : List Nat) : unm (l.map fun j => f j || g j) + (l.filter fun j => !f j && g j).length = unm (l.map f) := by
  induction l with
  | nil => simp [unm]
  | cons a r ih =>
    simp only [List.map_cons, unm, List.filter_cons]
    cases f a <;> cases g a <;> simp <;> omega
theorem unm_tell (h : Whole W n D) {i : Nat} (hi : i < n) (h0 : mkd D i = false) : unm (tell W n i D) + (partL W n i).length = unm D := by
  have e1 : D = (List.range n).map (mkd D) := by
    refine mkd_ext (by simp [h.1]) fun b hb => ?_
    have : b < n := by rw [← h.1]; exact hb
    simp [mkd, this]
  have e2 := unm_map (mkd D) (both2 W i) (List.range n)
  rw [← e1] at e2
  rw [← e2]
  congr 2
  unfold partL
  apply List.filter_congr
  intro j hj
  simp only [List.mem_range] at hj
  cases hm : both2 W i j
  · simp
  · have := h.2 i j hi hj hm
    rw [h0] at this
    simp [← this]
theorem okB_iff {i : Nat} : okB W n D i = true ↔ mkd D i = false ∧ ∀ j, j < n → W i j = true → W j i = true ∨ mkd D j = true := by
  simp only [okB, Bool.and_eq_true, Bool.not_eq_true', List.all_eq_true, List.mem_range, Bool.or_eq_true]
  constructor
  · rintro ⟨h1, h2⟩
    refine ⟨h1, fun j hj hw => ?_⟩
    rcases h2 j hj with h3 | h3
    · rw [hw] at h3; simp at h3
    · exact h3
  · rintro ⟨h1, h2⟩
    refine ⟨h1, fun j hj => ?_⟩
    cases hw : W i j
    · exact .inl rfl
    · exact .inr (h2 j hj hw)
/-- There is a next, as long as not all is told. -/
theorem ok_exists (ht : ∀ i m j, m < n → W i m = true → W m j = true → W i j = true) {i : Nat} (hi : i < n) (h0 : mkd D i = false) : ∃ j, j < n ∧ okB W n D j = true := by
  have key : ∀ (m i : Nat), ((List.range n).filter fun x => decide (x = i) || W i x).length ≤ m → i < n → mkd D i = false → ∃ j, j < n ∧ okB W n D j = true := by
    intro m
    induction m with
    | zero =>
      intro i hm hi _
      have : i ∈ (List.range n).filter fun x => decide (x = i) || W i x := by simp [hi]
      have := List.length_pos_of_mem this
      omega
    | succ m ih =>
      intro i hm hi h0
      by_cases hok : okB W n D i = true
      · exact ⟨i, hi, hok⟩
      · rw [okB_iff] at hok
        simp only [not_and, Classical.not_forall] at hok
        obtain ⟨j, hj, hw, hno⟩ := hok h0
        simp only [not_or, Bool.not_eq_true] at hno
        refine ih j ?_ hj hno.2
        have hsub : ((List.range n).filter fun x => decide (x = j) || W j x).length < ((List.range n).filter fun x => decide (x = i) || W i x).length := by
          have hne : i ≠ j := fun e => by subst e; rw [hw] at hno; simp at hno
          have hle : ∀ l : List Nat, (∀ x ∈ l, x < n) → (l.filter fun x => decide (x = j) || W j x).length + (if i ∈ l then 1 else 0) ≤ (l.filter fun x => decide (x = i) || W i x).length := by
            intro l
            induction l with
            | nil => simp
            | cons x r ihl =>
              intro hx
              have hr := ihl fun y hy => hx y (List.mem_cons_of_mem _ hy)
              have hxn := hx x (by simp)
              simp only [List.filter_cons, List.mem_cons]
              by_cases e : x = i
              · subst e
                have e1 : (decide (x = j) || W j x) = false := by simp [hne, hno.1]
                have e2 : (decide (x = x) || W x x) = true := by simp
                rw [e1, e2]
                simp
                split at hr <;> omega
              · have e3 : (i = x ∨ i ∈ r) ↔ i ∈ r := ⟨fun h => h.resolve_left fun h => e h.symm, .inr⟩
                simp only [e3]
                by_cases e4 : (decide (x = j) || W j x) = true
                · have e5 : (decide (x = i) || W i x) = true := by
                    simp only [Bool.or_eq_true, decide_eq_true_eq] at e4 ⊢
                    rcases e4 with rfl | e4
                    · exact .inr hw
                    · exact .inr (ht i j x hj hw e4)
                  rw [e4, e5]
                  simp
                  omega
                · simp only [Bool.not_eq_true] at e4
                  rw [e4]
                  simp only [Bool.false_eq_true, if_false]
                  by_cases e6 : (decide (x = i) || W i x) = true
                  · rw [if_pos e6]; simp only [List.length_cons]; omega
                  · rw [if_neg e6]; exact hr
          have := hle (List.range n) (by simp)
          rw [if_pos (by simpa using hi)] at this
          omega
        omega
  exact key _ i (Nat.le_refl _) hi h0
theorem firstB_some {i : Nat} (h : firstB W n D = some i) : i < n ∧ okB W n D i = true ∧ ∀ j, j < i → okB W n D j = false := by
  unfold firstB at h
  have h1 := List.find?_some h
  have h2 := List.mem_of_find?_eq_some h
  refine ⟨by simpa using h2, h1, fun j hj => ?_⟩
  rw [List.find?_range_eq_some] at h
  have := h.2.2 j hj
  simpa using this
theorem firstB_of {i : Nat} (hi : i < n) (h : okB W n D i = true) (hl : ∀ j, j < i → okB W n D j = false) : firstB W n D = some i := by
  unfold firstB
  rw [List.find?_range_eq_some]
  exact ⟨h, by simpa using hi, fun j hj => by simp [hl j hj]⟩
theorem firstB_none (h : ∀ j, j < n → okB W n D j = false) : firstB W n D = none := by
  unfold firstB
  rw [List.find?_eq_none]
  intro j hj
  simp only [List.mem_range] at hj
  simp [h j hj]
theorem unm_pos (hl : D.length = n) (h : 0 < unm D) : ∃ i, i < n ∧ mkd D i = false := by
  subst hl
  induction D with
  | nil => simp [unm] at h
  | cons b r ih =>
    cases b
    · exact ⟨0, by simp, by simp [mkd]⟩
    · obtain ⟨i, h1, h2⟩ := ih (by simpa [unm] using h)
      exact ⟨i + 1, by simpa using h1, by simpa [mkd] using h2⟩
theorem unm_zero (h : unm D = 0) {i : Nat} (hi : i < D.length) : mkd D i = true := by
  induction D generalizing i with
  | nil => simp at hi
  | cons b r ih =>
    cases b
    · simp [unm] at h
    · cases i with
      | zero => simp [mkd]
      | succ i => simpa [mkd] using ih (by simpa [unm] using h) (by simpa using hi)
/-- Enough rounds are enough. -/
theorem compsF_more (ht : ∀ i m j, m < n → W i m = true → W m j = true → W i j = true) : ∀ (f : Nat) (D : List Bool), Whole W n D → unm D ≤ f → compsF W n (f + 1) D = compsF W n f D := by
  intro f
  induction f with
  | zero =>
    intro D h hu
    have : firstB W n D = none := firstB_none fun j hj => by
      have := unm_zero (D := D) (by omega) (i := j) (by rw [h.1]; exact hj)
      simp [okB, this]
    simp [compsF, this]
  | succ f ih =>
    intro D h hu
    rw [compsF, compsF]
    cases hf : firstB W n D with
    | none => rfl
    | some i =>
      simp only
      obtain ⟨h1, h2, _⟩ := firstB_some hf
      have h3 := (okB_iff.1 h2).1
      have hu2 := unm_tell h h1 h3
      have hp : 0 < (partL W n i).length := List.length_pos_of_mem (a := i) (by simp [partL, h1, both2_refl])
      rw [ih _ (whole_tell ht h h1) (by omega)]
end
end Go.Proofs.Ytkgoajnnkimkaaa
