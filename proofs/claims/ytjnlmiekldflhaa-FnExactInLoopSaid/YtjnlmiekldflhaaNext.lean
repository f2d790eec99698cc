/- Contracts of nextIn, and of l09Next: what comes next. -/
import Derived.Test.YtjnlmiekldflhaaFlow
import Derived.Test.YtjnlmiekldflhaaBitsOf
import Derived.Test.YtjnlmiekldflhaaMoved
set_option linter.unusedSimpArgs false
set_option linter.unusedVariables false
namespace Go.Proofs.Ytjnlmiekldflhaa
open Go.ChangeShapes Go.WideShapes Go.ChangeAt Go.RowKit

/-- The cells of a list of small numbers. -/
def nv (xs : List Nat) : List Value := (xs.map natI).map iv
theorem nv_len (xs : List Nat) : (nv xs).length = xs.length := by simp [nv]
theorem nv_append (xs ys : List Nat) : nv (xs ++ ys) = nv xs ++ nv ys := by simp [nv]
theorem Rd.nat {w : World} {B : Nat} {A : Option Addr} {xs : List Nat} (h : Rd w B A (nv xs)) {j : Nat} (hj : j < xs.length) : ∃ ad, A = some ad ∧ ad.block < B ∧ w.cell? (ad.add j) = some (.int .i64 (xs[j] : Int)) :=
  h j _ (by simp [nv, hj, iv, natI])
/-- A new list of small numbers. -/
def NewNats (w : World) (xs : List Nat) (e : Ending) (w' : World) : Prop := NewRow w 3 1 xs.length (nv xs) e w'
/-- Code in the first five cells of block g. -/
def KAt (W : World) (g : Nat) (v : CV) (k : Cd) : Prop :=
  W.cell? ⟨g, 0, none⟩ = some (.slice v.gA k.globals.length v.gc) ∧ W.cell? ⟨g, 1, none⟩ = some (.slice v.lA k.locks.length v.lc) ∧
    W.cell? ⟨g, 2, none⟩ = some (.slice v.pA k.procs.length v.pc) ∧ W.cell? ⟨g, 3, none⟩ = some (.slice v.eA k.entry.length v.ec) ∧ W.cell? ⟨g, 4, none⟩ = some (.slice v.iA k.ins.length v.ic)
theorem KAt.to {W W' : World} {g : Nat} {v : CV} {k : Cd} (h : KAt W g v k) (hb : Below W.heap.size W W') : KAt W' g v k := by
  obtain ⟨c0, c1, c2, c3, c4⟩ := h
  exact ⟨cell_below hb c0, cell_below hb c1, cell_below hb c2, cell_below hb c3, cell_below hb c4⟩
theorem KAt.grown {W W' : World} {g : Nat} {v : CV} {k : Cd} {row : Option Nat} (h : KAt W g v k) (hg : W.grownBy W' row) (hne : some g ≠ row) : KAt W' g v k := by
  obtain ⟨c0, c1, c2, c3, c4⟩ := h
  exact ⟨hg.cell c0 hne, hg.cell c1 hne, hg.cell c2 hne, hg.cell c3 hne, hg.cell c4 hne⟩
theorem kAt_of {w W : World} {v : CV} {k : Cd} (h : CodeBox w v k W) : KAt W w.heap.size v k := h.2.2
theorem newNats_lit (w W : World) (xs : List Nat) (hl : xs.length ≤ 1099511627776) (hb : Below w.heap.size w W) (g : Nat) (hg : g = W.heap.size) (e : Ending) (he : e = .returned (.slice (some ⟨g, 0, none⟩) xs.length xs.length)) (w' : World) (hw : w' = W.alloc (.cells (nv xs).toArray 3)) : NewNats w xs e w' := by
  subst hw he hg
  refine ⟨_, _, rfl, ?_, below_trans' hb (below_alloc0 _ _)⟩
  have := World.ownsRow_lit (base := w.heap.size) (e := 3) (size := 1) W (nv xs).toArray xs.length hb.size (by unfold maxLen; omega) (by simp [nv])
  simpa using this

theorem nextIn_any {B : Nat} (g : Nat) (v : CV) (k : Cd) (a : Nat) (w : World) (hr : Right k) (hk : CodeAt w B v k) (hg : KAt w g v k) (ha : a < k.ins.length) :
    Calls Try.prog 84 #[.pointer (some ⟨g, 0, none⟩), .int .i64 a] w (NewNats w (nextL k a)) := by
  obtain ⟨ad, A', c', eA, hbl, k0, k1, k2, k3, k4, k5, k6, _⟩ := hk.i.get ha
  obtain ⟨c0, c1, c2, c3, c4⟩ := hg
  rw [eA] at c4
  rw [opN_eq ha] at k0
  have hins := hr.ins
  have HT := Lib.hid (fun h => toN_eq hr ha h)
  have z1 : (0 : Int) ≤ (a : Int) := by omega
  have z2 : (a : Int) < (k.ins.length : Int) := by omega
  have hb0 : ∀ o, Below w.heap.size w (w.alloc o) := fun o => below_alloc0 w o
  clear eA hk
  by_cases h9 : opN k a = 9
  · have HN := Lib.hid (show nextL k a = [] from by simp [nextL, h9])
    rw [h9] at k0
    clear h9
    go_enter Try.func84, Try.ntmps84
    go_wp2
    go_ret
    rw [HN.out]
    exact ⟨none, 0, rfl, World.ownsRow_nil _ _ _ _, hb0 _⟩
  · by_cases h3 : opN k a = 3
    · have HN := Lib.hid (show nextL k a = [toN k a] from by simp [nextL, h3])
      rw [HT.out (.inr h3)] at k6
      rw [h3] at k0
      clear h3 h9
      go_enter Try.func84, Try.ntmps84
      go_wp2
      go_ret
      rw [HN.out]
      exact newNats_lit _ _ [toN k a] (by simp) (hb0 _) (w.heap.size + 1) (by simp) _ rfl _ rfl
    · by_cases h2 : opN k a = 2
      · rw [HT.out (.inl h2)] at k6
        by_cases ht : toN k a = a + 1
        · have HN := Lib.hid (show nextL k a = [a + 1] from by simp [nextL, h2, ht])
          have e1 : ((toN k a : Int) != (a : Int) + 1) = false := by simp; omega
          rw [h2] at k0
          clear h2 h3 h9 ht
          go_enter Try.func84, Try.ntmps84
          go_wp2
          go_ret
          rw [HN.out]
          exact newNats_lit _ _ [a + 1] (by simp) (hb0 _) (w.heap.size + 1) (by simp) _ rfl _ rfl
        · have HN := Lib.hid (show nextL k a = [a + 1, toN k a] from by simp [nextL, h2, ht])
          have e1 : ((toN k a : Int) != (a : Int) + 1) = true := by simp; omega
          rw [h2] at k0
          clear h2 h3 h9 ht
          go_enter Try.func84, Try.ntmps84
          go_wp2
          go_ret
          rw [HN.out]
          exact newNats_lit _ _ [a + 1, toN k a] (by simp) (hb0 _) (w.heap.size + 1) (by simp) _ rfl _ rfl
      · have HN := Lib.hid (show nextL k a = [a + 1] from by simp [nextL, h9, h3, h2])
        have e9 : (opN k a == 9) = false := by simpa using h9
        have e3 : (opN k a == 3) = false := by simpa using h3
        have e2 : (opN k a == 2) = false := by simpa using h2
        clear h2 h3 h9
        go_enter Try.func84, Try.ntmps84
        go_wp2
        go_ret
        rw [HN.out]
        exact newNats_lit _ _ [a + 1] (by simp) (hb0 _) (w.heap.size + 1) (by simp) _ rfl _ rfl
theorem l09Next_any {B : Nat} (v : CV) (k : Cd) (a : Nat) (w : World) (hr : Right k) (hk : CodeAt w B v k) (ha : a < k.ins.length) :
    Calls Try.prog 83 #[.agg #[.slice v.gA k.globals.length v.gc, .slice v.lA k.locks.length v.lc, .slice v.pA k.procs.length v.pc, .slice v.eA k.entry.length v.ec, .slice v.iA k.ins.length v.ic], .int .i64 a] w (NewNats w (nextL k a)) := by
  obtain ⟨ad, A', c', eA, hbl, k0, k1, k2, k3, k4, k5, k6, _⟩ := hk.full.i.get ha
  rw [eA]
  rw [opN_eq ha] at k0
  have hins := hr.ins
  have HT := Lib.hid (fun h => toN_eq hr ha h)
  have z1 : (0 : Int) ≤ (a : Int) := by omega
  have z2 : (a : Int) < (k.ins.length : Int) := by omega
  have hb0 : ∀ o o', Below w.heap.size w ((w.alloc o).alloc o') := fun o o' => below_trans' (below_alloc0 w o) (below_alloc0 _ _)
  clear eA hk
  by_cases h9 : opN k a = 9
  · have HN := Lib.hid (show nextL k a = [] from by simp [nextL, h9])
    rw [h9] at k0
    clear h9
    go_enter Try.func83, Try.ntmps83
    go_wp2
    go_ret
    rw [HN.out]
    exact newNats_lit _ _ [] (by simp) (hb0 _ _) (w.heap.size + 1 + 1) (by simp) _ rfl _ rfl
  · by_cases h3 : opN k a = 3
    · have HN := Lib.hid (show nextL k a = [toN k a] from by simp [nextL, h3])
      rw [HT.out (.inr h3)] at k6
      rw [h3] at k0
      clear h3 h9
      go_enter Try.func83, Try.ntmps83
      go_wp2
      go_ret
      rw [HN.out]
      exact newNats_lit _ _ [toN k a] (by simp) (hb0 _ _) (w.heap.size + 1 + 1) (by simp) _ rfl _ rfl
    · by_cases h2 : opN k a = 2
      · rw [HT.out (.inl h2)] at k6
        by_cases ht : toN k a = a + 1
        · have HN := Lib.hid (show nextL k a = [a + 1] from by simp [nextL, h2, ht])
          have e1 : ((toN k a : Int) == (a : Int) + 1) = true := by simp; omega
          rw [h2] at k0
          clear h2 h3 h9 ht
          go_enter Try.func83, Try.ntmps83
          go_wp2
          go_ret
          rw [HN.out]
          exact newNats_lit _ _ [a + 1] (by simp) (hb0 _ _) (w.heap.size + 1 + 1) (by simp) _ rfl _ rfl
        · have HN := Lib.hid (show nextL k a = [a + 1, toN k a] from by simp [nextL, h2, ht])
          have e1 : ((toN k a : Int) == (a : Int) + 1) = false := by simp; omega
          rw [h2] at k0
          clear h2 h3 h9 ht
          go_enter Try.func83, Try.ntmps83
          go_wp2
          go_ret
          rw [HN.out]
          exact newNats_lit _ _ [a + 1, toN k a] (by simp) (hb0 _ _) (w.heap.size + 1 + 1) (by simp) _ rfl _ rfl
      · have HN := Lib.hid (show nextL k a = [a + 1] from by simp [nextL, h9, h3, h2])
        have e9 : (opN k a == 9) = false := by simpa using h9
        have e3 : (opN k a == 3) = false := by simpa using h3
        have e2 : (opN k a == 2) = false := by simpa using h2
        clear h2 h3 h9
        go_enter Try.func83, Try.ntmps83
        go_wp2
        go_ret
        rw [HN.out]
        exact newNats_lit _ _ [a + 1] (by simp) (hb0 _ _) (w.heap.size + 1 + 1) (by simp) _ rfl _ rfl
end Go.Proofs.Ytjnlmiekldflhaa
