/- Rows of rows in memory, of one's own, no two in one block. -/
import Derived.Test.YtkgoajnnkimkaaaK3
set_option linter.unusedSimpArgs false
set_option linter.unusedVariables false
namespace Go.Proofs.Ytkgoajnnkimkaaa
open Go.ChangeShapes Go.WideShapes Go.ChangeAt Go.RowKit

/-- Two rows lie in other blocks. -/
def Apt (a b : Value) : Prop := ∀ x, a.ownBlock = some x → b.ownBlock ≠ some x
theorem apt_kept {w w' : World} {base : Nat} {t : TypeId} {n : Nat} {v u : Value} {xs : List Value} (h : w.ownsRow base t 1 v n xs) (hg : w.grownBy w' u.ownBlock) (hne : Apt v u) : w'.ownsRow base t 1 v n xs :=
  h.kept hg (by
    cases e : v.ownBlock with
    | none => exact .inl rfl
    | some g => exact .inr fun e2 => hne g e e2.symm)
theorem Apt.new {w : World} {base : Nat} {t : TypeId} {n : Nat} {v u u' : Value} {xs : List Value} (h : w.ownsRow base t 1 v n xs) (hne : Apt v u) (hu : u'.ownBlock = u.ownBlock ∨ u'.ownBlock = some (w.heap.size + 1)) : Apt v u' := fun x hx hx' => by
  rcases hu with e | e
  · exact hne x hx (e.symm.trans hx')
  · rw [e] at hx'
    injection hx' with hx'
    have := (h.lt x hx).2
    omega
theorem Apt.fresh {w : World} {base lo : Nat} {t t' : TypeId} {n m s : Nat} {v u : Value} {xs ys : List Value} {w' : World} (h : w'.ownsRow lo t 1 v n xs) (g : w.ownsRow base t' s u m ys) (hl : w.heap.size ≤ lo) : Apt v u := fun x hx hx' => by
  have h1 := (h.lt x hx).1
  have h2 := (g.lt x hx').2
  omega
theorem Apt.swap {a b : Value} (h : Apt a b) : Apt b a := fun x hx hx' => h x hx' hx

def rowV (r : (Option Addr × Nat × List Value)) : Value := .slice r.1 r.2.2.length r.2.1
/-- Rows of rows: T the type of a row, S of an element. -/
structure RL (W : World) (b0 : Nat) (T S : TypeId) (v : Value) (rr : List (Option Addr × Nat × List Value)) : Prop where
  f : W.ownsRow b0 T 1 v rr.length (rr.map rowV)
  r : ∀ i (h : i < rr.length), W.ownsRow b0 S 1 (rowV rr[i]) rr[i].2.2.length rr[i].2.2
  ne : ∀ p ∈ rr, Apt (rowV p) v
  pw : ∀ i j (hi : i < rr.length) (hj : j < rr.length), i ≠ j → Apt (rowV rr[i]) (rowV rr[j])
section
variable {W W' : World} {b0 : Nat} {T S : TypeId} {v : Value} {rr : List (Option Addr × Nat × List Value)}
theorem RL.below (h : RL W b0 T S v rr) (hb : Below W.heap.size W W') : RL W' b0 T S v rr := ⟨own_below h.f hb, fun i hi => own_below (h.r i hi) hb, h.ne, h.pw⟩
theorem RL.mono (h : RL W b0 T S v rr) {b : Nat} (hb : b ≤ b0) : RL W b T S v rr := ⟨own_mono h.f hb, fun i hi => own_mono (h.r i hi) hb, h.ne, h.pw⟩
theorem RL.kept (h : RL W b0 T S v rr) {u : Value} (hg : W.grownBy W' u.ownBlock) (h1 : Apt v u) (h2 : ∀ p ∈ rr, Apt (rowV p) u) : RL W' b0 T S v rr :=
  ⟨apt_kept h.f hg h1, fun i hi => apt_kept (h.r i hi) hg (h2 _ (List.getElem_mem hi)), h.ne, h.pw⟩
theorem RL.form (h : RL W b0 T S v rr) : ∃ A c, v = .slice A rr.length c := own_form h.f
theorem RL.nil (W : World) (b0 : Nat) (T S : TypeId) : RL W b0 T S (.slice none 0 0) [] := ⟨World.ownsRow_nil _ _ _ _, fun i h => by simp at h, fun p h => by simp at h, fun i j h => by simp at h⟩
theorem RL.lit {w : World} (h : b0 ≤ w.heap.size) : RL (w.alloc (.cells #[] T)) b0 T S (.slice (some ⟨w.heap.size, 0, none⟩) 0 0) [] := by
  refine ⟨?_, fun i h => by simp at h, fun p h => by simp at h, fun i j h => by simp at h⟩
  have := World.ownsRow_lit (base := b0) (e := T) (size := 1) w #[] 0 h (by simp) rfl
  simpa using this
/-- One more row, all its own. -/
theorem RL.add (h : RL W b0 T S v rr) {p : (Option Addr × Nat × List Value)} (hn : W.ownsRow b0 S 1 (rowV p) p.2.2.length p.2.2) (hne : Apt (rowV p) v) (hns : ∀ q ∈ rr, Apt (rowV p) (rowV q)) {v' : Value}
    (hf : W'.ownsRow b0 T 1 v' (rr.length + 1) ((rr ++ [p]).map rowV)) (hg : W.grownBy W' v.ownBlock) (hv : v'.ownBlock = v.ownBlock ∨ v'.ownBlock = some (W.heap.size + 1)) : RL W' b0 T S v' (rr ++ [p]) := by
  refine ⟨by rw [List.length_append]; exact hf, fun i hi => ?_, fun q hq => ?_, fun i j hi hj hij => ?_⟩
  · rw [List.length_append, List.length_singleton] at hi
    rcases Nat.lt_or_ge i rr.length with hl | hl
    · rw [List.getElem_append_left hl]
      exact apt_kept (h.r i hl) hg (h.ne _ (List.getElem_mem hl))
    · obtain rfl : i = rr.length := by omega
      rw [List.getElem_append_right (Nat.le_refl _)]
      simp only [Nat.sub_self, List.getElem_cons_zero]
      exact apt_kept hn hg hne
  · rcases List.mem_append.1 hq with hq | hq
    · obtain ⟨i, hi, rfl⟩ := List.getElem_of_mem hq
      exact Apt.new (h.r i hi) (h.ne _ (List.getElem_mem hi)) hv
    · rw [List.mem_singleton.1 hq]
      exact Apt.new hn hne hv
  · rw [List.length_append, List.length_singleton] at hi hj
    rcases Nat.lt_or_ge i rr.length with hl | hl <;> rcases Nat.lt_or_ge j rr.length with hm | hm
    · rw [List.getElem_append_left hl, List.getElem_append_left hm]
      exact h.pw i j hl hm hij
    · obtain rfl : j = rr.length := by omega
      rw [List.getElem_append_left hl, List.getElem_append_right (Nat.le_refl _)]
      simp only [Nat.sub_self, List.getElem_cons_zero]
      exact (hns _ (List.getElem_mem hl)).swap
    · obtain rfl : i = rr.length := by omega
      rw [List.getElem_append_left hm, List.getElem_append_right (Nat.le_refl _)]
      simp only [Nat.sub_self, List.getElem_cons_zero]
      exact hns _ (List.getElem_mem hm)
    · omega
/-- Row i, found and read. -/
theorem RL.at_ {A : Option Addr} {m c : Nat} (h : RL W b0 T S (.slice A m c) rr) {i : Nat} (hi : i < rr.length) : ∃ g, A = some ⟨g, 0, none⟩ ∧ W.cell? ⟨g, i, none⟩ = some (rowV rr[i]) := by
  obtain ⟨m', hm⟩ : ∃ m', m' = m := ⟨_, rfl⟩
  have hf := h.f
  obtain ⟨A', c', e⟩ := own_form hf
  injection e with e1 e2 e3
  subst e1 e2 e3
  rcases hf.2 with ⟨e, h0⟩ | ⟨g, cap, cur, e, hg, hh, r⟩
  · omega
  · injection e with e1 e2 e3
    refine ⟨g, e1, ?_⟩
    subst e1
    rw [hf.cellAt i (by omega), List.getElem?_map, List.getElem?_eq_getElem hi]
    rfl
theorem RL.cell (h : RL W b0 T S v rr) {i j : Nat} (hi : i < rr.length) (hj : j < rr[i].2.2.length) :
    ∃ g, rr[i].1 = some ⟨g, 0, none⟩ ∧ W.cell? ⟨g, j, none⟩ = some rr[i].2.2[j] ∧ W.frozen? ⟨g, j, none⟩ = false := by
  have hr := h.r i hi
  rcases hr.2 with ⟨e, h0⟩ | ⟨g, cap, cur, e, hg, hh, r⟩
  · omega
  · have e' := e
    unfold rowV at e'
    injection e' with e1 e2 e3
    refine ⟨g, e1, ?_, ?_⟩
    · have hr' := hr
      rw [e] at hr'
      rw [hr'.cellAt j (by omega)]
      simp [hj]
    · have hr' := hr
      rw [e] at hr'
      exact hr'.frozenAt j
/-- A cell of row i is set. -/
theorem RL.set (h : RL W b0 T S v rr) {i j g : Nat} (x : Value) (hi : i < rr.length) (hA : rr[i].1 = some ⟨g, 0, none⟩) :
    RL (W.setCell ⟨g, j, none⟩ x) b0 T S v (rr.set i (rr[i].1, rr[i].2.1, rr[i].2.2.set j x)) ∧ W.grownBy (W.setCell ⟨g, j, none⟩ x) (some g) := by
  have hr := h.r i hi
  have ev : rowV rr[i] = .slice (some ⟨g, 0, none⟩) rr[i].2.2.length rr[i].2.1 := by rw [rowV, hA]
  rw [ev] at hr
  obtain ⟨s1, s2⟩ := hr.stored j x
  have hob : (rowV rr[i]).ownBlock = some g := by rw [ev]; rfl
  have s2' : W.grownBy (W.setCell ⟨g, j, none⟩ x) (rowV rr[i]).ownBlock := by rw [hob]; exact s2
  have er : rowV (rr[i].1, rr[i].2.1, rr[i].2.2.set j x) = rowV rr[i] := by simp [rowV]
  have em : (rr.set i (rr[i].1, rr[i].2.1, rr[i].2.2.set j x)).map rowV = rr.map rowV := by
    apply List.ext_getElem
    · simp
    · intro m h1 h2
      simp only [List.length_map, List.length_set] at h1 h2
      simp only [List.getElem_map, List.getElem_set]
      split
      · rename_i e; subst e; exact er
      · rfl
  have hv : ∀ m (hm : m < (rr.set i (rr[i].1, rr[i].2.1, rr[i].2.2.set j x)).length), rowV (rr.set i (rr[i].1, rr[i].2.1, rr[i].2.2.set j x))[m] = rowV (rr[m]'(by simpa using hm)) := by
    intro m hm
    rw [List.getElem_set]
    split
    · rename_i e; subst e; exact er
    · rfl
  refine ⟨⟨?_, fun m hm => ?_, fun p hp => ?_, fun a b ha hb hab => ?_⟩, s2⟩
  · rw [em, List.length_set]
    exact apt_kept h.f s2' (h.ne _ (List.getElem_mem hi)).swap
  · have hm' : m < rr.length := by simpa using hm
    by_cases e : i = m
    · subst e
      simp only [List.getElem_set_self]
      rw [er, ev]
      simpa using s1
    · rw [List.getElem_set_ne e]
      exact apt_kept (h.r m hm') s2' (h.pw m i hm' hi fun h => e h.symm)
  · obtain ⟨m, hm, rfl⟩ := List.getElem_of_mem hp
    rw [hv m hm]
    exact h.ne _ (List.getElem_mem _)
  · rw [hv a ha, hv b hb]
    exact h.pw a b (by simpa using ha) (by simpa using hb) hab
end
/-- The cells of n bools. -/
def bitsV (n : Nat) (p : Nat → Bool) : List Value := (List.range n).map fun j => bv (p j)
theorem bitsV_len (n : Nat) (p : Nat → Bool) : (bitsV n p).length = n := by simp [bitsV]
theorem bitsV_get {n : Nat} {p : Nat → Bool} {j : Nat} (h : j < (bitsV n p).length) : (bitsV n p)[j] = .bool (p j) := by simp [bitsV, bv]
theorem bitsV_set (n : Nat) (p : Nat → Bool) (j : Nat) (b : Bool) : (bitsV n p).set j (.bool b) = bitsV n fun x => if x = j then b else p x := by
  apply List.ext_getElem
  · simp [bitsV]
  · intro m h1 h2
    rw [List.getElem_set]
    simp only [bitsV, List.getElem_map, List.getElem_range]
    by_cases e : j = m
    · subst e; simp [bv]
    · rw [if_neg e, if_neg fun h => e h.symm]
theorem bitsV_congr {n : Nat} {p q : Nat → Bool} (h : ∀ j, j < n → p j = q j) : bitsV n p = bitsV n q := by
  unfold bitsV
  exact List.map_congr_left fun j hj => by rw [h j (List.mem_range.1 hj)]
/-- n rows of n bools. -/
structure RB (W : World) (b0 n : Nat) (P : Nat → Nat → Bool) (v : Value) (rr : List (Option Addr × Nat × List Value)) : Prop where
  l : RL W b0 50 4 v rr
  len : rr.length = n
  c : ∀ i (h : i < rr.length), rr[i].2.2 = bitsV n (P i)
section
variable {W W' : World} {b0 n : Nat} {P : Nat → Nat → Bool} {v : Value} {rr : List (Option Addr × Nat × List Value)}
theorem RB.below (h : RB W b0 n P v rr) (hb : Below W.heap.size W W') : RB W' b0 n P v rr := ⟨h.l.below hb, h.len, h.c⟩
theorem RB.congr {Q : Nat → Nat → Bool} (h : RB W b0 n P v rr) (e : ∀ i j, i < n → j < n → P i j = Q i j) : RB W b0 n Q v rr :=
  ⟨h.l, h.len, fun i hi => (h.c i hi).trans (bitsV_congr fun j hj => e i j (by rw [← h.len]; exact hi) hj)⟩
/-- A place of a row of rows: where its row lies, and what stands there. -/
theorem RB.get {A : Option Addr} {m c : Nat} (h : RB W b0 n P (.slice A m c) rr) {i j : Nat} (hi : i < n) (hj : j < n) :
    ∃ g gr cr, A = some ⟨g, 0, none⟩ ∧ W.cell? ⟨g, i, none⟩ = some (.slice (some ⟨gr, 0, none⟩) n cr) ∧ W.cell? ⟨gr, j, none⟩ = some (.bool (P i j)) ∧ W.frozen? ⟨gr, j, none⟩ = false ∧ b0 ≤ gr ∧
      ∃ rr', RB (W.setCell ⟨gr, j, none⟩ (.bool true)) b0 n (fun x y => if x = i ∧ y = j then true else P x y) (.slice A m c) rr' := by
  have hi' : i < rr.length := by rw [h.len]; exact hi
  obtain ⟨g, e1, h1⟩ := h.l.at_ hi'
  have hc := h.c i hi'
  have hjl : j < rr[i].2.2.length := by rw [hc, bitsV_len]; exact hj
  obtain ⟨gr, e2, h2, h3⟩ := h.l.cell hi' hjl
  obtain ⟨s1, s2⟩ := h.l.set (j := j) (.bool true) hi' e2
  have hr := (h.l.r i hi').lt gr (by rw [rowV, e2]; rfl)
  refine ⟨g, gr, rr[i].2.1, e1, ?_, ?_, h3, hr.1, _, s1, by simp [h.len], fun m hm => ?_⟩
  · rw [h1, rowV, e2, hc, bitsV_len]
  · rw [h2]; simp only [hc, bitsV_get]
  · have hm' : m < rr.length := by simpa using hm
    by_cases e : i = m
    · subst e
      simp only [List.getElem_set_self]
      rw [hc, bitsV_set]
      exact bitsV_congr fun y _ => by simp
    · rw [List.getElem_set_ne e, h.c m hm']
      exact bitsV_congr fun y _ => by
        have : ¬ (m = i ∧ y = j) := fun hh => e hh.1.symm
        simp [this]
end
end Go.Proofs.Ytkgoajnnkimkaaa
