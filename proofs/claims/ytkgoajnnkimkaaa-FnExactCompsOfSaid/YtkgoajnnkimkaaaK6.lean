/- Contract of compSets: the parts, told one by one. -/
import Derived.Test.YtkgoajnnkimkaaaK4
set_option linter.unusedSimpArgs false
set_option linter.unusedVariables false
namespace Go.Proofs.Ytkgoajnnkimkaaa
open Go.ChangeShapes Go.WideShapes Go.ChangeAt Go.RowKit

theorem info_rowI : (Try.prog.info? 35).map (fun i => (i.zero, i.size, i.bytes)) = some (some (.slice none 0 0), 1, 24) := by kernel_rfl
section
variable (w : World) {ops : Array Oper} {rest : List Oper} {o : Oper} {a : Act} {Q : Exit → Act → World → Prop}
theorem append_rowI {wr : World} (A : Option Addr) (m c : Nat) (hgd : o.guard = none) (s x : Operand) (ho : o.op = .call { callee := .builtin .append, args := #[s, x], argTypes := #[24, 24] })
    {base : Nat} {v : Value} {n : Nat} {xs : List Value} (hown : wr.ownsRow base 35 1 v n xs) (hs : a.eval s = v) (hx : a.eval x = .slice (some ⟨wr.heap.size, 0, none⟩) 1 1)
    (hn : n ≤ 1099511627775) (hbase : base ≤ wr.heap.size)
    (hK : ∀ A' c' w', w'.ownsRow base 35 1 (.slice A' (n + 1) c') (n + 1) (xs ++ [.slice A m c]) → wr.grownBy w' v.ownBlock → ((Value.slice A' (n + 1) c').ownBlock = v.ownBlock ∨ (Value.slice A' (n + 1) c').ownBlock = some (wr.heap.size + 1)) →
      wpList Try.prog ops Q rest (a.put o.dst (.slice A' (n + 1) c')) w') : wpList Try.prog ops Q (o :: rest) a (wr.alloc (.cells #[.slice A m c] 35)) :=
  append_cells Try.underlying24 info_rowI rfl (by omega) (by omega) hgd s x ho [.slice A m c] hown hs hx rfl (by simp [Value.oneCell']) hn hbase
    fun A' c' w' h1 h2 h3 => hK A' c' w' h1 h2 h3
end
/-- The numbers of a list, as ints. -/
def numI (l : List Nat) : List Int := l.map fun (j : Nat) => (j : Int)
theorem numI_len (l : List Nat) : (numI l).length = l.length := by simp [numI]
/-- Rows of ints that tell the lists. -/
structure RI (W : World) (b0 : Nat) (v : Value) (rr : List (Option Addr × Nat × List Value)) (cs : List (List Nat)) : Prop where
  l : RL W b0 35 3 v rr
  c : rr.map (fun r => r.2.2) = cs.map fun l => (numI l).map iv
theorem RI.len {W : World} {b0 : Nat} {v : Value} {rr : List (Option Addr × Nat × List Value)} {cs : List (List Nat)} (h : RI W b0 v rr cs) : rr.length = cs.length := by
  have := congrArg List.length h.c
  simpa using this
theorem RI.below {W W' : World} {b0 : Nat} {v : Value} {rr : List (Option Addr × Nat × List Value)} {cs : List (List Nat)} (h : RI W b0 v rr cs) (hb : Below W.heap.size W W') : RI W' b0 v rr cs := ⟨h.l.below hb, h.c⟩
theorem RI.nil (W : World) (b0 : Nat) : RI W b0 (.slice none 0 0) [] [] := ⟨RL.nil _ _ _ _, rfl⟩
theorem RI.add {W W' : World} {b0 b1 m cn : Nat} {An : Option Addr} {v v' : Value} {rr : List (Option Addr × Nat × List Value)} {cs : List (List Nat)} {l : List Nat} (h : RI W b0 v rr cs) (hn : W.ownsRow b1 3 1 (.slice An m cn) m ((numI l).map iv)) (hm : m = l.length) (hb : b0 ≤ b1)
    (hne : Apt (.slice An m cn) v) (hns : ∀ q ∈ rr, Apt (.slice An m cn) (rowV q))
    (hf : W'.ownsRow b0 35 1 v' (rr.length + 1) (rr.map rowV ++ [.slice An m cn])) (hg : W.grownBy W' v.ownBlock) (hv : v'.ownBlock = v.ownBlock ∨ v'.ownBlock = some (W.heap.size + 1)) :
    RI W' b0 v' (rr ++ [(An, cn, (numI l).map iv)]) (cs ++ [l]) := by
  subst hm
  have ev : rowV (An, cn, (numI l).map iv) = .slice An l.length cn := by rw [rowV]; simp [numI]
  have el : ((numI l).map iv).length = l.length := by simp [numI]
  refine ⟨h.l.add (p := (An, cn, (numI l).map iv)) ?_ ?_ ?_ ?_ hg hv, ?_⟩
  · rw [ev, el]; exact own_mono hn hb
  · rw [ev]; exact hne
  · rw [ev]; exact hns
  · rw [List.map_append, List.map_cons, List.map_nil, ev]; exact hf
  · rw [List.map_append, List.map_append, h.c]; rfl
/-- New parts. -/
def NewComps (w : World) (cs : List (List Nat)) (e : Ending) (w' : World) : Prop := ∃ A c rr, e = .returned (.slice A cs.length c) ∧ RI w' w.heap.size (.slice A cs.length c) rr cs ∧ Below w.heap.size w w'

/-- The bits of a property of the numbers below n. -/
def Bits (n : Nat) (p : Nat → Bool) (x : Nat) : Prop := ∀ j, x.testBit j = (decide (j < n) && p j)
section
variable {n : Nat} {p q : Nat → Bool} {x y : Nat}
theorem Bits.lt (h : Bits n p x) (hn : n ≤ 60) : x < 1152921504606846976 := by
  have h1 : x < 2 ^ n := lt_of_bits fun j hj => by rw [h j, decide_eq_false (by omega)]; rfl
  exact Nat.lt_of_lt_of_le h1 (show 2 ^ n ≤ 2 ^ 60 from Nat.pow_le_pow_right (by omega) hn)
theorem Bits.congr (h : Bits n p x) (e : ∀ j, j < n → p j = q j) : Bits n q x := fun j => by
  rw [h j]
  by_cases hj : j < n
  · rw [e j hj]
  · simp [hj]
theorem Bits.zero (h : ∀ j, j < n → p j = false) : Bits n p 0 := fun j => by
  by_cases hj : j < n
  · simp [h j hj]
  · simp [hj]
theorem Bits.one {i : Nat} (hi : i < n) : Bits n (fun j => decide (j = i)) (2 ^ i) := fun j => by
  rw [Nat.testBit_two_pow]
  by_cases e : i = j
  · subst e; simp [hi]
  · have : ¬ j = i := fun h => e h.symm
    simp [e, this]
theorem Bits.put {i : Nat} (h : Bits n p x) (hi : i < n) : Bits n (fun j => p j || decide (j = i)) (x ||| 2 ^ i) := fun j => by
  rw [Nat.testBit_or, h j, Bits.one hi j]
  cases decide (j < n) <;> simp
theorem Bits.or (h : Bits n p x) (g : Bits n q y) : Bits n (fun j => p j || q j) (x ||| y) := fun j => by
  rw [Nat.testBit_or, h j, g j]
  cases decide (j < n) <;> simp
theorem Bits.get (h : Bits n p x) {i : Nat} (hi : i < n) : x.testBit i = p i := by rw [h i]; simp [hi]
end
theorem RowsU.bits {n : Nat} {T : Nat → Nat → Bool} {xs : List Nat} (h : RowsU n T xs) {i : Nat} (hi : i < n) : Bits n (T i) (gu xs i) := h.bit i hi
/-- What is left of a's ways outside of its part, and of all that is told. -/
theorem ok_bits {W : Nat → Nat → Bool} {n i : Nat} {D : List Bool} {a p d : Nat} (ha : Bits n (W i) a) (hp : Bits n (both2 W i) p) (hd : Bits n (mkd D) d) (hn : n ≤ 60) (h0 : mkd D i = false) :
    (((((a &&& (18446744073709551615 - p)) &&& (18446744073709551615 - d) : Nat) : Int)) == 0) = okB W n D i := by
  have la := ha.lt hn
  have lp := hp.lt hn
  have ld := hd.lt hn
  have hb : ∀ j, ((a &&& (18446744073709551615 - p)) &&& (18446744073709551615 - d)).testBit j = (decide (j < n) && (W i j && !both2 W i j && !mkd D j)) := fun j => by
    rw [testBit_not_u _ _ _ (Nat.lt_of_le_of_lt Nat.and_le_left (by omega)) (by omega), testBit_not_u _ _ _ (by omega) (by omega), ha j, hp j, hd j]
    cases decide (j < n) <;> simp
  generalize (a &&& (18446744073709551615 - p)) &&& (18446744073709551615 - d) = z at hb
  rw [cast_beq_zero, Bool.eq_iff_iff, beq_iff_eq, okB_iff]
  constructor
  · rintro rfl
    refine ⟨h0, fun j hj hw => ?_⟩
    have := hb j
    rw [Nat.zero_testBit, decide_eq_true hj, hw] at this
    cases hm : mkd D j
    · rw [hm] at this
      have h2 : both2 W i j = true := by simpa using this.symm
      simp only [both2, Bool.or_eq_true, decide_eq_true_eq, Bool.and_eq_true] at h2
      rcases h2 with rfl | ⟨_, h2⟩
      · exact .inl hw
      · exact .inl h2
    · exact .inr rfl
  · rintro ⟨_, h⟩
    apply Nat.eq_of_testBit_eq
    intro j
    rw [hb j, Nat.zero_testBit]
    by_cases hj : j < n
    · cases hw : W i j
      · simp
      · rcases h j hj hw with h1 | h1
        · simp [both2, hw, h1]
        · simp [h1]
    · simp [hj]
section
variable {W : Nat → Nat → Bool} {n : Nat} {D : List Bool}
theorem compsF_fuel (ht : ∀ i m j, m < n → W i m = true → W m j = true → W i j = true) (h : Whole W n D) (d : Nat) : ∀ u, unm D ≤ u → compsF W n (u + d) D = compsF W n u D := by
  induction d with
  | zero => intro u _; rfl
  | succ d ih => intro u hu; rw [← Nat.add_assoc, compsF_more ht _ _ h (by omega), ih u hu]
theorem part_pos {i : Nat} (hi : i < n) : 0 < (partL W n i).length := List.length_pos_of_mem (a := i) (by simp [partL, hi, both2_refl])
theorem compsF_step (ht : ∀ i m j, m < n → W i m = true → W m j = true → W i j = true) (h : Whole W n D) {i : Nat} (hf : firstB W n D = some i) :
    compsF W n (unm D) D = partL W n i :: compsF W n (unm (tell W n i D)) (tell W n i D) := by
  obtain ⟨h1, h2, _⟩ := firstB_some hf
  have h3 := (okB_iff.1 h2).1
  have hu := unm_tell h h1 h3
  have hp := part_pos (W := W) h1
  obtain ⟨f, hf'⟩ : ∃ f, unm D = f + 1 := ⟨unm D - 1, by omega⟩
  rw [hf', compsF, hf]
  simp only
  obtain ⟨d, hd⟩ : ∃ d, f = unm (tell W n i D) + d := ⟨f - unm (tell W n i D), by omega⟩
  rw [hd, compsF_fuel ht (whole_tell ht h h1) d _ (Nat.le_refl _)]
theorem compsF_none (hf : firstB W n D = none) (u : Nat) : compsF W n u D = [] := by
  cases u with
  | zero => rfl
  | succ u => rw [compsF, hf]
theorem unm_start (n : Nat) : unm (List.replicate n false) = n := by
  induction n with
  | zero => rfl
  | succ n ih => rw [List.replicate_succ, unm, ih]; simp; omega
/-- All parts. -/
def compsN (W : Nat → Nat → Bool) (n : Nat) : List (List Nat) := compsF W n n (List.replicate n false)
/-- Parts so far. -/
structure Told (W : Nat → Nat → Bool) (n : Nat) (D : List Bool) (pre : List (List Nat)) : Prop where
  whole : Whole W n D
  all : pre ++ compsF W n (unm D) D = compsN W n
  room : pre.length + unm D ≤ n
theorem Told.start (W : Nat → Nat → Bool) (n : Nat) : Told W n (List.replicate n false) [] := ⟨whole_start, by rw [unm_start]; rfl, by rw [unm_start]; simp⟩
theorem Told.step {pre : List (List Nat)} (h : Told W n D pre) (ht : ∀ i m j, m < n → W i m = true → W m j = true → W i j = true) {i : Nat} (hf : firstB W n D = some i) :
    Told W n (tell W n i D) (pre ++ [partL W n i]) ∧ unm (tell W n i D) + (partL W n i).length = unm D ∧ 0 < (partL W n i).length := by
  obtain ⟨h1, h2, _⟩ := firstB_some hf
  have hu := unm_tell h.whole h1 (okB_iff.1 h2).1
  have hp := part_pos (W := W) h1
  refine ⟨⟨whole_tell ht h.whole h1, ?_, ?_⟩, hu, hp⟩
  · have := h.all
    rw [compsF_step ht h.whole hf] at this
    rw [List.append_assoc]
    exact this
  · have := h.room
    rw [List.length_append, List.length_singleton]; omega
theorem Told.done {pre : List (List Nat)} (h : Told W n D pre) (hf : firstB W n D = none) : pre = compsN W n := by
  have := h.all
  rwa [compsF_none hf, List.append_nil] at this
/-- The part of i, up to j. -/
def partTo (W : Nat → Nat → Bool) (i j : Nat) : List Nat := (List.range j).filter (both2 W i)
theorem partTo_succ (W : Nat → Nat → Bool) (i j : Nat) : partTo W i (j + 1) = if both2 W i j = true then partTo W i j ++ [j] else partTo W i j := by
  unfold partTo
  rw [List.range_succ, List.filter_append]
  by_cases h : both2 W i j = true
  · simp [h]
  · simp [h]
theorem partTo_len (W : Nat → Nat → Bool) (i j : Nat) : (partTo W i j).length ≤ j := by
  have := List.length_filter_le (both2 W i) (List.range j)
  simpa [partTo] using this
end
end Go.Proofs.Ytkgoajnnkimkaaa
