/- The block of a world; the tables of whom each procedure calls and starts. -/
import Derived.Test.YtkgoajnnkimkaaaGreatC2
import Derived.Deep.OwnRows
import Derived.Deep.CutRange
import Derived.StillTailTactics
set_option linter.unusedSimpArgs false
set_option linter.unusedVariables false
namespace Go.Proofs.YtkgoajnnkimkaaaGreat
open Go.ChangeShapes Go.WideShapes Go.ChangeAt Go.RowKit

/-- A world's block: the code, and six cells more. -/
def WB (W : World) (g : Nat) (v : CV) (k : Cd) (x5 x6 x7 x8 x9 x10 : Value) : Prop := W.heap[g]? = some (.cells #[.slice v.gA k.globals.length v.gc, .slice v.lA k.locks.length v.lc, .slice v.pA k.procs.length v.pc, .slice v.eA k.entry.length v.ec, .slice v.iA k.ins.length v.ic, x5, x6, x7, x8, x9, x10] 89)
section
variable {W W' : World} {g : Nat} {v : CV} {k : Cd} {x5 x6 x7 x8 x9 x10 : Value}
theorem WB.lt (h : WB W g v k x5 x6 x7 x8 x9 x10) : g < W.heap.size := (Array.getElem?_eq_some_iff.1 h).1
theorem WB.cell (h : WB W g v k x5 x6 x7 x8 x9 x10) (j : Nat) {u : Value} (hu : (#[.slice v.gA k.globals.length v.gc, .slice v.lA k.locks.length v.lc, .slice v.pA k.procs.length v.pc, .slice v.eA k.entry.length v.ec, .slice v.iA k.ins.length v.ic, x5, x6, x7, x8, x9, x10] : Array Value)[j]? = some u) : W.cell? ⟨g, j, none⟩ = some u := by
  rw [cell_of_row _ _ _ _ _ _ h]; exact hu
theorem WB.kat (h : WB W g v k x5 x6 x7 x8 x9 x10) : KAt W g v k := ⟨h.cell 0 rfl, h.cell 1 rfl, h.cell 2 rfl, h.cell 3 rfl, h.cell 4 rfl⟩
theorem WB.free (h : WB W g v k x5 x6 x7 x8 x9 x10) (j : Nat) : W.frozen? ⟨g, j, none⟩ = false := by
  have h : W.heap[g]? = some (.cells _ _ _) := h
  simp [World.frozen?, h]
theorem WB.below (h : WB W g v k x5 x6 x7 x8 x9 x10) (hb : Below W.heap.size W W') : WB W' g v k x5 x6 x7 x8 x9 x10 := (hb.block g h.lt).trans h
theorem WB.grown {row : Option Nat} (h : WB W g v k x5 x6 x7 x8 x9 x10) (hg : W.grownBy W' row) (hne : some g ≠ row) : WB W' g v k x5 x6 x7 x8 x9 x10 := (hg.block g h.lt hne).trans h
theorem WB.set6 (h : WB W g v k x5 x6 x7 x8 x9 x10) (x : Value) : WB (W.setCell ⟨g, 6, none⟩ x) g v k x5 x x7 x8 x9 x10 := set_row h 6 x
theorem WB.set7 (h : WB W g v k x5 x6 x7 x8 x9 x10) (x : Value) : WB (W.setCell ⟨g, 7, none⟩ x) g v k x5 x6 x x8 x9 x10 := set_row h 7 x
theorem WB.set8 (h : WB W g v k x5 x6 x7 x8 x9 x10) (x : Value) : WB (W.setCell ⟨g, 8, none⟩ x) g v k x5 x6 x7 x x9 x10 := set_row h 8 x
theorem WB.set9 (h : WB W g v k x5 x6 x7 x8 x9 x10) (x : Value) : WB (W.setCell ⟨g, 9, none⟩ x) g v k x5 x6 x7 x8 x x10 := set_row h 9 x
theorem WB.set10 (h : WB W g v k x5 x6 x7 x8 x9 x10) (x : Value) : WB (W.setCell ⟨g, 10, none⟩ x) g v k x5 x6 x7 x8 x9 x := set_row h 10 x
end

/-- A row of one's own, all noughts. -/
def Zeros (W : World) (base g n : Nat) : Prop := W.ownsRow base 3 1 (.slice (some ⟨g, 0, none⟩) n n) n (nv (List.replicate n 0))
/-- Three new rows in three cells of the world's block. -/
def Made3 (w : World) (g : Nat) (v : CV) (k : Cd) (x5 x9 x10 : Value) (n : Nat) (w' : World) : Prop :=
  ∃ a b c, a ≠ b ∧ a ≠ c ∧ b ≠ c ∧ Zeros w' w.heap.size a n ∧ Zeros w' w.heap.size b n ∧ Zeros w' w.heap.size c n ∧
    WB w' g v k x5 (.slice (some ⟨a, 0, none⟩) n n) (.slice (some ⟨b, 0, none⟩) n n) (.slice (some ⟨c, 0, none⟩) n n) x9 x10 ∧ w.grownBy w' (some g)

theorem grown_set (w : World) (a : Addr) (x : Value) : w.grownBy (w.setCell a x) (some a.block) :=
  ⟨rfl, rfl, rfl, by simp, fun b _ hne => Below.heap_setCell w a x b (by simpa using hne)⟩
theorem zeros_of {W : World} {base g n : Nat} (h : W.heap[g]? = some (.cells (madeCells #[.int .i64 0] n) 3)) (hb : base ≤ g) (hn : n ≤ 1099511627776) : Zeros W base g n := by
  refine ⟨by simp [nv], .inr ⟨g, n, _, rfl, hb, h, Nat.le_refl _, by unfold maxLen; omega, by simp [size_madeCells], ?_⟩⟩
  rw [toList_madeCells_one, Nat.mul_one, List.take_of_length_le (by simp)]
  simp [nv, iv, natI]
theorem made3_of {w : World} {g : Nat} {v : CV} {k : Cd} {x5 x6 x7 x8 x9 x10 : Value} (hw : WB w g v k x5 x6 x7 x8 x9 x10) {n : Nat} (hn : n ≤ 1099511627776) (x y z : Nat)
    (hx : x = w.heap.size ∨ x = w.heap.size + 1 ∨ x = w.heap.size + 1 + 1) (hy : y = w.heap.size ∨ y = w.heap.size + 1 ∨ y = w.heap.size + 1 + 1) (hz : z = w.heap.size ∨ z = w.heap.size + 1 ∨ z = w.heap.size + 1 + 1) (h1 : x ≠ y) (h2 : x ≠ z) (h3 : y ≠ z) :
    Made3 w g v k x5 x9 x10 n ((((((w.setCell ⟨g, 6, none⟩ (.slice (some ⟨x, 0, none⟩) n n)).setCell ⟨g, 7, none⟩ (.slice (some ⟨y, 0, none⟩) n n)).setCell ⟨g, 8, none⟩ (.slice (some ⟨z, 0, none⟩) n n)).alloc (.cells (madeCells #[.int .i64 0] n) 3)).alloc (.cells (madeCells #[.int .i64 0] n) 3)).alloc (.cells (madeCells #[.int .i64 0] n) 3)).drew := by
  have hg := ((grown_set w ⟨g, 6, none⟩ (.slice (some ⟨x, 0, none⟩) n n)).trans (grown_set _ ⟨g, 7, none⟩ (.slice (some ⟨y, 0, none⟩) n n))).trans (grown_set _ ⟨g, 8, none⟩ (.slice (some ⟨z, 0, none⟩) n n))
  have hb := ((hw.set6 (.slice (some ⟨x, 0, none⟩) n n)).set7 (.slice (some ⟨y, 0, none⟩) n n)).set8 (.slice (some ⟨z, 0, none⟩) n n)
  have hs : (((w.setCell ⟨g, 6, none⟩ (.slice (some ⟨x, 0, none⟩) n n)).setCell ⟨g, 7, none⟩ (.slice (some ⟨y, 0, none⟩) n n)).setCell ⟨g, 8, none⟩ (.slice (some ⟨z, 0, none⟩) n n)).heap.size = w.heap.size := by simp
  generalize ((w.setCell ⟨g, 6, none⟩ (.slice (some ⟨x, 0, none⟩) n n)).setCell ⟨g, 7, none⟩ (.slice (some ⟨y, 0, none⟩) n n)).setCell ⟨g, 8, none⟩ (.slice (some ⟨z, 0, none⟩) n n) = W0 at *
  generalize hM : Obj.cells (madeCells #[Value.int IntKind.i64 0] n) 3 = M
  have e0 := heap_alloc_new W0 M
  have b0 := below_alloc0 W0 M
  have s0 : (W0.alloc M).heap.size = w.heap.size + 1 := by simp [hs]
  generalize W0.alloc M = W1 at *
  have e1 := heap_alloc_new W1 M
  have b1 := below_alloc0 W1 M
  have s1 : (W1.alloc M).heap.size = w.heap.size + 1 + 1 := by simp [s0]
  generalize W1.alloc M = W2 at *
  have e2 := heap_alloc_new W2 M
  have b2 := below_alloc0 W2 M
  generalize W2.alloc M = W3 at *
  rw [hs] at e0
  rw [s0] at e1
  rw [s1] at e2
  have key : ∀ q, q = w.heap.size ∨ q = w.heap.size + 1 ∨ q = w.heap.size + 1 + 1 → W3.drew.heap[q]? = some M := by
    intro q hq
    show W3.heap[q]? = some M
    rcases hq with rfl | rfl | rfl
    · exact (b2.block _ (by omega)).trans ((b1.block _ (by omega)).trans e0)
    · exact (b2.block _ (by omega)).trans e1
    · exact e2
  have hb3 : Below W0.heap.size W0 W3.drew := (below_trans' (below_trans' b0 b1) b2).drew
  refine ⟨x, y, z, h1, h2, h3, zeros_of (by rw [hM]; exact key x hx) (by omega) hn, zeros_of (by rw [hM]; exact key y hy) (by omega) hn, zeros_of (by rw [hM]; exact key z hz) (by omega) hn, hb.below hb3, grownBelow hg hb3⟩

/-- The numbers that the places of a list name with operation o, as bits. -/
def opsN (k : Cd) (o : Int) (l : List Nat) : Nat := l.foldl (fun s a => if opN k a = o then s ||| 2 ^ argN k a else s) 0
theorem opsN_snoc (k : Cd) (o : Int) (l : List Nat) (a : Nat) : opsN k o (l ++ [a]) = if opN k a = o then opsN k o l ||| 2 ^ argN k a else opsN k o l := by simp [opsN]
theorem opsN_bit {k : Cd} {o : Int} {q : Nat} (l : List Nat) : (opsN k o l).testBit q = true ↔ ∃ a ∈ l, opN k a = o ∧ argN k a = q := by
  have key : ∀ (l : List Nat) (s : Nat), (l.foldl (fun s a => if opN k a = o then s ||| 2 ^ argN k a else s) s).testBit q = true ↔ s.testBit q = true ∨ ∃ a ∈ l, opN k a = o ∧ argN k a = q := by
    intro l
    induction l with
    | nil => simp
    | cons a r ih =>
      intro s
      rw [List.foldl_cons, ih]
      by_cases e : opN k a = o
      · rw [if_pos e, Nat.testBit_or, Nat.testBit_two_pow]
        simp only [Bool.or_eq_true, decide_eq_true_eq, List.mem_cons]
        constructor
        · rintro ((h | h) | ⟨x, h1, h2⟩)
          · exact .inl h
          · exact .inr ⟨a, .inl rfl, e, h⟩
          · exact .inr ⟨x, .inr h1, h2⟩
        · rintro (h | ⟨x, rfl | h1, h2⟩)
          · exact .inl (.inl h)
          · exact .inl (.inr h2.2)
          · exact .inr ⟨x, h1, h2⟩
      · rw [if_neg e]
        constructor
        · rintro (h | ⟨x, h1, h2⟩)
          · exact .inl h
          · exact .inr ⟨x, List.mem_cons_of_mem _ h1, h2⟩
        · rintro (h | ⟨x, h1, h2⟩)
          · exact .inl h
          · rcases List.mem_cons.1 h1 with rfl | h1
            · exact absurd h2.1 e
            · exact .inr ⟨x, h1, h2⟩
  unfold opsN
  rw [key]
  simp
theorem lt_two_pow_of_bits {s m : Nat} (h : ∀ i, s.testBit i = true → i < m) : s < 2 ^ m := by
  apply Nat.lt_pow_two_of_testBit
  intro i hi
  cases e : s.testBit i
  · rfl
  · have := h i e; omega
theorem opsN_all {k : Cd} (hr : Right k) {p : Nat} (hp : p < k.procs.length) {o : Int} (ho : o = 4 ∨ o = 5) : opsN k o (listN k.ins.length (LiveP k p)) = setN k.procs.length (OpsP k o p) := by
  have hb : ∀ q, (opsN k o (listN k.ins.length (LiveP k p))).testBit q = true ↔ OpsP k o p q := fun q => by
    rw [opsN_bit]
    constructor
    · rintro ⟨a, h1, h2⟩; exact ⟨a, (mem_listN.1 h1).2, h2⟩
    · rintro ⟨a, h1, h2⟩; exact ⟨a, mem_listN.2 ⟨(live_in hr hp h1).1, h1⟩, h2⟩
  refine eq_setN (lt_two_pow_of_bits fun q h => ops_lt hr hp ho ((hb q).1 h)) fun q _ => hb q
theorem opsN_lt {k : Cd} (hr : Right k) {p : Nat} (hp : p < k.procs.length) {o : Int} (ho : o = 4 ∨ o = 5) (j : Nat) : opsN k o ((listN k.ins.length (LiveP k p)).take j) < 2 ^ 8 := by
  refine lt_two_pow_of_bits fun q h => ?_
  obtain ⟨a, h1, h2, rfl⟩ := (opsN_bit _).1 h
  have h3 := (mem_listN.1 (List.mem_of_mem_take h1)).1
  have h4 := argN_lt hr h3 (by rw [h2]; exact ho)
  have := hr.procs
  omega
/-- A table of which the first p are filled. -/
def upd (n p : Nat) (f : Nat → Nat) : List Nat := (List.range n).map fun q => if q < p then f q else 0
theorem upd_len (n p : Nat) (f : Nat → Nat) : (upd n p f).length = n := by simp [upd]
theorem upd_get {n p q : Nat} {f : Nat → Nat} (hq : q < n) : (upd n p f)[q]? = some (if q < p then f q else 0) := by simp [upd, hq]
theorem upd_zero (n : Nat) (f : Nat → Nat) : upd n 0 f = List.replicate n 0 := by
  apply List.ext_getElem?
  intro i
  rcases Nat.lt_or_ge i n with h | h
  · rw [upd_get h, List.getElem?_replicate, if_pos h]; simp
  · rw [List.getElem?_eq_none (by rw [upd_len]; exact h), List.getElem?_eq_none (by simpa using h)]
theorem upd_set0 {n p : Nat} {f : Nat → Nat} (hp : p < n) : (upd n p f).set p 0 = upd n p f := by
  apply List.ext_getElem?
  intro i
  rw [List.getElem?_set]
  by_cases e : p = i
  · subst e
    rw [if_pos rfl, if_pos (by rw [upd_len]; exact hp), upd_get hp, if_neg (by omega)]
  · rw [if_neg e]
theorem upd_set {n p : Nat} {f : Nat → Nat} (hp : p < n) : (upd n p f).set p (f p) = upd n (p + 1) f := by
  apply List.ext_getElem?
  intro i
  rw [List.getElem?_set]
  by_cases e : p = i
  · subst e
    rw [if_pos rfl, if_pos (by rw [upd_len]; exact hp), upd_get hp, if_pos (by omega)]
  · rw [if_neg e]
    rcases Nat.lt_or_ge i n with h | h
    · rw [upd_get h, upd_get h]
      by_cases h2 : i < p
      · rw [if_pos h2, if_pos (by omega)]
      · rw [if_neg h2, if_neg (by omega)]
    · rw [List.getElem?_eq_none (by rw [upd_len]; exact h), List.getElem?_eq_none (by rw [upd_len]; exact h)]
theorem nv_set (xs : List Nat) (j y : Nat) : (nv xs).set j (.int .i64 (y : Int)) = nv (xs.set j y) := by
  unfold nv
  rw [List.map_set, List.map_set]
  rfl
/-- Whom each procedure calls, or starts. -/
noncomputable def opsT (k : Cd) (o : Int) (p : Nat) : Nat := setN k.procs.length (OpsP k o p)
noncomputable def fromT (k : Cd) (p : Nat) : Nat := setN k.procs.length (FromP k p)
/-- All of them. -/
noncomputable def tabL (k : Cd) (f : Nat → Nat) : List Nat := (List.range k.procs.length).map f
theorem upd_all (k : Cd) (f : Nat → Nat) : upd k.procs.length k.procs.length f = tabL k f := by
  unfold upd tabL
  apply List.map_congr_left
  intro q hq
  rw [if_pos (by simpa using hq)]
theorem tabL_len (k : Cd) (f : Nat → Nat) : (tabL k f).length = k.procs.length := by simp [tabL]
theorem tabL_get {k : Cd} {f : Nat → Nat} {q : Nat} (hq : q < k.procs.length) : (tabL k f)[q]? = some (f q) := by simp [tabL, hq]

/-- The three tables under way. -/
structure FC (w : World) (g : Nat) (v : CV) (k : Cd) (x5 x9 x10 : Value) (a b c n : Nat) (ca sp fr : List Nat) (wr : World) : Prop where
  ab : a ≠ b
  ac : a ≠ c
  bc : b ≠ c
  rca : wr.ownsRow w.heap.size 3 1 (.slice (some ⟨a, 0, none⟩) n n) n (nv ca)
  rsp : wr.ownsRow w.heap.size 3 1 (.slice (some ⟨b, 0, none⟩) n n) n (nv sp)
  rfr : wr.ownsRow w.heap.size 3 1 (.slice (some ⟨c, 0, none⟩) n n) n (nv fr)
  blk : WB wr g v k x5 (.slice (some ⟨a, 0, none⟩) n n) (.slice (some ⟨b, 0, none⟩) n n) (.slice (some ⟨c, 0, none⟩) n n) x9 x10
  grown : w.grownBy wr (some g)
  g_lt : g < w.heap.size
section
variable {w wr w1 : World} {g : Nat} {v : CV} {k : Cd} {x5 x9 x10 : Value} {a b c n : Nat} {ca sp fr : List Nat}
theorem FC.below (h : FC w g v k x5 x9 x10 a b c n ca sp fr wr) (hb : Below wr.heap.size wr w1) : FC w g v k x5 x9 x10 a b c n ca sp fr w1 :=
  ⟨h.ab, h.ac, h.bc, own_below h.rca hb, own_below h.rsp hb, own_below h.rfr hb, h.blk.below hb, grownBelow h.grown hb, h.g_lt⟩
theorem FC.ne (h : FC w g v k x5 x9 x10 a b c n ca sp fr wr) : g ≠ a ∧ g ≠ b ∧ g ≠ c := by
  have h1 := (own_lt h.rca).1
  have h2 := (own_lt h.rsp).1
  have h3 := (own_lt h.rfr).1
  have := h.g_lt
  omega
theorem FC.setA (h : FC w g v k x5 x9 x10 a b c n ca sp fr wr) (j y : Nat) {u : Int} (hu : u = y) : FC w g v k x5 x9 x10 a b c n (ca.set j y) sp fr (wr.setCell ⟨a, j, none⟩ (.int .i64 u)) := by
  subst hu
  obtain ⟨s1, s2⟩ := h.rca.stored j (.int .i64 (y : Int))
  rw [nv_set] at s1
  have hn := h.ne
  refine ⟨h.ab, h.ac, h.bc, s1, h.rsp.kept s2 (.inr ?_), h.rfr.kept s2 (.inr ?_), h.blk.grown s2 (by simp; omega), grownNew h.grown s2 fun x hx => ?_, h.g_lt⟩
  · simp [Value.ownBlock]; exact fun e => h.ab e.symm
  · simp [Value.ownBlock]; exact fun e => h.ac e.symm
  · injection hx with hx; subst hx; exact (own_lt h.rca).1
theorem FC.setB (h : FC w g v k x5 x9 x10 a b c n ca sp fr wr) (j y : Nat) {u : Int} (hu : u = y) : FC w g v k x5 x9 x10 a b c n ca (sp.set j y) fr (wr.setCell ⟨b, j, none⟩ (.int .i64 u)) := by
  subst hu
  obtain ⟨s1, s2⟩ := h.rsp.stored j (.int .i64 (y : Int))
  rw [nv_set] at s1
  have hn := h.ne
  refine ⟨h.ab, h.ac, h.bc, h.rca.kept s2 (.inr ?_), s1, h.rfr.kept s2 (.inr ?_), h.blk.grown s2 (by simp; omega), grownNew h.grown s2 fun x hx => ?_, h.g_lt⟩
  · simp [Value.ownBlock]; exact h.ab
  · simp [Value.ownBlock]; exact fun e => h.bc e.symm
  · injection hx with hx; subst hx; exact (own_lt h.rsp).1
theorem FC.setC (h : FC w g v k x5 x9 x10 a b c n ca sp fr wr) (j y : Nat) {u : Int} (hu : u = y) : FC w g v k x5 x9 x10 a b c n ca sp (fr.set j y) (wr.setCell ⟨c, j, none⟩ (.int .i64 u)) := by
  subst hu
  obtain ⟨s1, s2⟩ := h.rfr.stored j (.int .i64 (y : Int))
  rw [nv_set] at s1
  have hn := h.ne
  refine ⟨h.ab, h.ac, h.bc, h.rca.kept s2 (.inr ?_), h.rsp.kept s2 (.inr ?_), s1, h.blk.grown s2 (by simp; omega), grownNew h.grown s2 fun x hx => ?_, h.g_lt⟩
  · simp [Value.ownBlock]; exact h.ac
  · simp [Value.ownBlock]; exact h.bc
  · injection hx with hx; subst hx; exact (own_lt h.rfr).1
end
theorem nv_get {xs : List Nat} {j y : Nat} (h : xs[j]? = some y) : (nv xs)[j]? = some (.int .i64 (y : Int)) := by
  have e : (nv xs)[j]? = xs[j]?.map (fun n => iv (natI n)) := by simp [nv]; rfl
  rw [e, h]
  rfl
/-- The places that were looked at put their numbers into the table. -/
theorem FC.start {w : World} {g : Nat} {v : CV} {k : Cd} {x5 x9 x10 : Value} {n : Nat} {w' : World} (h : Made3 w g v k x5 x9 x10 n w') (hg : g < w.heap.size) : ∃ a b c, FC w g v k x5 x9 x10 a b c n (List.replicate n 0) (List.replicate n 0) (List.replicate n 0) w' := by
  obtain ⟨a, b, c, h1, h2, h3, h4, h5, h6, h7, h8⟩ := h
  exact ⟨a, b, c, h1, h2, h3, h4, h5, h6, h7, h8, hg⟩
/-- What is called from p: a set that is closed. -/
theorem from_step {k : Cd} (hr : Right k) {p s : Nat} (h : ∀ q, s.testBit q = true → FromP k p q) : ∀ q, (s ||| unionN (tabL k (opsT k 4)) (bitsTo s 62)).testBit q = true → FromP k p q := by
  intro q hq
  rw [Nat.testBit_or, Bool.or_eq_true, testBit_unionN] at hq
  rcases hq with hq | ⟨i, hi, hq⟩
  · exact h q hq
  · have hs := (mem_bitsTo.1 hi).2
    rcases Nat.lt_or_ge i k.procs.length with h1 | h1
    · rw [tabL_get h1] at hq
      simp only [Option.getD_some] at hq
      have h2 := testBit_setN_true.1 hq
      exact (h i hs).step (mem_listN.2 h2)
    · rw [List.getElem?_eq_none (by rw [tabL_len]; exact h1)] at hq
      simp at hq
theorem from_fix {k : Cd} (hr : Right k) {p s : Nat} (hp : p < k.procs.length) (h0 : s.testBit p = true) (hs : s < 2 ^ k.procs.length) (h : ∀ q, s.testBit q = true → FromP k p q) (hc : s ||| unionN (tabL k (opsT k 4)) (bitsTo s 62) = s) : s = fromT k p := by
  refine eq_setN hs fun q _ => ⟨h q, fun hq => ?_⟩
  refine hq.inv (P := fun q => s.testBit q = true) h0 fun x hx y hy => ?_
  rw [← hc, Nat.testBit_or, Bool.or_eq_true, testBit_unionN]
  have hxl := lt_of_testBit hs hx
  have := hr.procs
  refine .inr ⟨x, mem_bitsTo.2 ⟨by omega, hx⟩, ?_⟩
  rw [tabL_get hxl]
  exact testBit_setN_true.2 (mem_listN.1 hy)
theorem union_lt {k : Cd} (f : Nat → Nat) (hf : ∀ q, f q < 2 ^ k.procs.length) (l : List Nat) : unionN (tabL k f) l < 2 ^ k.procs.length :=
  unionN_lt (fun s hs => by
    unfold tabL at hs
    obtain ⟨q, _, rfl⟩ := List.mem_map.1 hs
    exact hf q) l
theorem pow_le_256 {k : Cd} (hr : Right k) : 2 ^ k.procs.length ≤ 256 := (Nat.pow_le_pow_right (by omega) hr.procs : 2 ^ k.procs.length ≤ 2 ^ 8)

end Go.Proofs.YtkgoajnnkimkaaaGreat
/- Contracts of findCalls and findRoots. -/
set_option linter.unusedSimpArgs false
set_option linter.unusedVariables false
namespace Go.Proofs.YtkgoajnnkimkaaaGreat
open Go.ChangeShapes Go.WideShapes Go.ChangeAt Go.RowKit

set_option maxRecDepth 100000 in
set_option maxHeartbeats 4000000 in
theorem findCalls_any {B : Nat} (g : Nat) (v : CV) (k : Cd) (Al : Option Addr) (cl : Nat) (x6 x7 x8 x9 x10 : Value) (w : World) (hr : Right k) (hk : CodeAt w B v k) (hB : B ≤ g) (hw : WB w g v k (.slice Al k.ins.length cl) x6 x7 x8 x9 x10) (hl : Rd w B Al ((markL k.ins.length (LiveA k)).map bv)) :
    Calls Tryz.prog 152 #[.pointer (some ⟨g, 0, none⟩)] w fun e w' => e = .returned (.tuple #[]) ∧ ∃ a b c, FC w g v k (.slice Al k.ins.length cl) x9 x10 a b c k.procs.length (tabL k (opsT k 4)) (tabL k (opsT k 5)) (tabL k (fromT k)) w' := by
  have hpl := hr.procs
  have hmk := run_make_row' (P := Tryz.prog) 25 3 (.int .i64 0) 8 Tryz.underlying25 info_int rfl .i64 .i64 k.procs.length (by omega) (by omega)
  obtain ⟨c0, c1, c2, c3, c4⟩ := hw.kat
  have hbA : ∀ o : Obj, Below w.heap.size w (((w.alloc o).alloc o).alloc o) := fun o => below_trans' (below_trans' (below_alloc0 _ _) (below_alloc0 _ _)) (below_alloc0 _ _)
  have hwA := hw.below (hbA (.cells (madeCells #[.int .i64 0] k.procs.length) 3))
  have c6 := hwA.cell 6 rfl
  have c7 := hwA.cell 7 rfl
  have c8 := hwA.cell 8 rfl
  have f6 := hwA.free 6
  have f7 := hwA.free 7
  have f8 := hwA.free 8
  have d6 := hw.cell 6 rfl
  have d7 := hw.cell 7 rfl
  have d8 := hw.cell 8 rfl
  have e6 := hw.free 6
  have e7 := hw.free 7
  have e8 := hw.free 8
  clear hbA hwA
  have hgl := hw.lt
  have hgl1 : g < w.heap.size + 1 := by omega
  have hgl2 : g < w.heap.size + 1 + 1 := by omega
  go_enter Tryz.func152, Tryz.ntmps152
  go_upto_region 1 with (fail)
  go_cut [] from 17 to 31 (fun w' => Made3 w g v k (.slice Al k.ins.length cl) x9 x10 k.procs.length w')
  case first =>
    go_region
    all_goals go_wp2_with fail
    all_goals go_meet
    all_goals exact made3_of hw (by omega) _ _ _ (by omega) (by omega) (by omega) (by omega) (by omega) (by omega)
  case rest =>
    clear c0 c1 c2 c3 c4 c6 c7 c8 f6 f7 f8 d6 d7 d8 e6 e7 e8 hmk hgl1 hgl2
    obtain ⟨a, b, c, hF⟩ := FC.start hcut hgl
    clear hcut
    have HBW := Lib.hid (fun W (h : w.grownBy W (some g)) => hk.below (below_grown h (by omega) hB))
    have HLW := Lib.hid (fun W (h : w.grownBy W (some g)) => hl.below (below_grown h (by omega) hB))
    have hins := hr.ins
    have HR := Lib.hid hr
    rw [← upd_zero k.procs.length (opsT k 4)] at hF
    have hF1 : FC w g v k (.slice Al k.ins.length cl) x9 x10 a b c k.procs.length (upd k.procs.length 0 (opsT k 4)) (upd k.procs.length 0 (opsT k 5)) (List.replicate k.procs.length 0) wc := by
      have e : upd k.procs.length 0 (opsT k 4) = upd k.procs.length 0 (opsT k 5) := by rw [upd_zero, upd_zero]
      rw [← e]
      rw [upd_zero] at hF ⊢
      exact hF
    clear hF hk hl hr hw
    go_wp2_with fail
    go_loopg [33] k.procs.length (fun l i wr => ∃ p : Nat, p ≤ k.procs.length ∧ l = k.procs.length - p ∧ i = .int .i64 p ∧ FC w g v k (.slice Al k.ins.length cl) x9 x10 a b c k.procs.length (upd k.procs.length p (opsT k 4)) (upd k.procs.length p (opsT k 5)) (List.replicate k.procs.length 0) wr)
    case atStart => exact ⟨0, by omega, by omega, rfl, hF1⟩
    case round =>
      clear hF1
      obtain ⟨p, hp, rfl, rfl, hF⟩ := hrel
      by_cases hlt : p < k.procs.length
      · have HLO := Lib.hid (liveOf_any g v k p wr HR.out (HBW.out _ hF.grown) hF.blk.kat ⟨Al, cl, hF.blk.cell 5 rfl, HLW.out _ hF.grown⟩ hlt)
        have hsw := hF.grown.size
        go_wp2_with fail
        refine HLO.out.mono ?_
        rintro e w1 ⟨An, cn, rfl, hon, hb1⟩
        have hF2 := hF.below hb1
        have hon0 := own_lt hF.rca
        have hon1 := own_lt hF.rsp
        have hon2 := own_lt hF.rfr
        have HXL := Lib.hid (show ∀ x ∈ listN k.ins.length (LiveP k p), x < k.ins.length from fun x hx => (mem_listN.1 hx).1)
        have HO4 := Lib.hid (opsN_all HR.out hlt (o := 4) (.inl rfl))
        have HO5 := Lib.hid (opsN_all HR.out hlt (o := 5) (.inr rfl))
        have HL4 := Lib.hid (fun j => opsN_lt HR.out hlt (o := 4) (.inl rfl) j)
        have HL5 := Lib.hid (fun j => opsN_lt HR.out hlt (o := 5) (.inr rfl) j)
        have hll := listN_len k.ins.length (LiveP k p)
        generalize listN k.ins.length (LiveP k p) = ls at hon HXL HO4 HO5 HL4 HL5 hll ⊢
        clear hF
        go_wp2_with fail
        obtain ⟨wo, rfl⟩ : ∃ wo : World, wo = wr := ⟨_, rfl⟩
        go_loopg [40] ls.length (fun l i wr => ∃ j : Nat, j ≤ ls.length ∧ l = ls.length - j ∧ i = .int .i64 j ∧ wr.ownsRow wo.heap.size 3 1 (.slice An ls.length cn) ls.length (nv ls) ∧
          FC w g v k (.slice Al k.ins.length cl) x9 x10 a b c k.procs.length ((upd k.procs.length p (opsT k 4)).set p (opsN k 4 (ls.take j))) ((upd k.procs.length p (opsT k 5)).set p (opsN k 5 (ls.take j))) (List.replicate k.procs.length 0) wr)
        case atStart =>
          refine ⟨0, by omega, by omega, rfl, hon, ?_⟩
          show FC w g v k (.slice Al k.ins.length cl) x9 x10 a b c k.procs.length ((upd k.procs.length p (opsT k 4)).set p 0) ((upd k.procs.length p (opsT k 5)).set p 0) (List.replicate k.procs.length 0) w1
          rw [upd_set0 hlt, upd_set0 hlt]
          exact hF2
        case round =>
          clear hF2 hon
          obtain ⟨j, hj, rfl, rfl, hon, hF⟩ := hrel
          by_cases hltj : j < ls.length
          · obtain ⟨adn, rfl, hbn, hcj⟩ := (own_rd hon).nat hltj
            have hxl := HXL.out ls[j] (List.getElem_mem hltj)
            have HT4 := Lib.hid (show opsN k 4 (ls.take (j + 1)) = _ from by rw [List.take_succ_eq_append_getElem hltj, opsN_snoc])
            have HT5 := Lib.hid (show opsN k 5 (ls.take (j + 1)) = _ from by rw [List.take_succ_eq_append_getElem hltj, opsN_snoc])
            generalize ls[j] = x at *
            obtain ⟨c0, c1, c2, c3, c4⟩ := hF.blk.kat
            obtain ⟨ai, A', c', eA, hbi, k0, k1, k2, k3, k4, k5, k6, _⟩ := (HBW.out _ hF.grown).full.i.get hxl
            rw [eA] at c4
            rw [opN_eq hxl] at k0
            rw [argN_eq HR.out hxl] at k1
            have z1 : (0 : Int) ≤ (x : Int) := by omega
            have z2 : (x : Int) < (k.ins.length : Int) := by omega
            by_cases h4 : opN k x = 4
            · have hal := argN_lt HR.out hxl (by rw [h4]; decide)
              rw [h4] at k0
              go_wp2_with fail
              have hb2 := below_alloc0 wr (.cells #[.int .i64 4, .int .i64 (argN k x), .int .i64 k.ins[x].term.kind, .int .i64 k.ins[x].term.num, .string k.ins[x].term.name, .slice A' k.ins[x].term.kids.length c', .int .i64 k.ins[x].to] 52)
              have ca1 := box_cell wr #[.int .i64 4, .int .i64 (argN k x), .int .i64 k.ins[x].term.kind, .int .i64 k.ins[x].term.num, .string k.ins[x].term.name, .slice A' k.ins[x].term.kids.length c', .int .i64 k.ins[x].to] 52 1 rfl
              have ca0 := box_cell wr #[.int .i64 4, .int .i64 (argN k x), .int .i64 k.ins[x].term.kind, .int .i64 k.ins[x].term.num, .string k.ins[x].term.name, .slice A' k.ins[x].term.kids.length c', .int .i64 k.ins[x].to] 52 0 rfl
              generalize wr.alloc (.cells #[.int .i64 4, .int .i64 (argN k x), .int .i64 k.ins[x].term.kind, .int .i64 k.ins[x].term.num, .string k.ins[x].term.name, .slice A' k.ins[x].term.kids.length c', .int .i64 k.ins[x].to] 52) = W at hb2 ca1 ca0 ⊢
              have hFW := hF.below hb2
              have honW := own_below hon hb2
              have d6 := hFW.blk.cell 6 rfl
              have hl4 := HL4.out j
              generalize opsN k 4 (ls.take j) = y at *
              have dp := own_at hFW.rca hlt (nv_get (y := y) (by rw [List.getElem?_set, if_pos rfl, if_pos (by rw [upd_len]; exact hlt)]))
              have fp := hFW.rca.frozenAt p
              have y1 : (0 : Int) ≤ (p : Int) := by omega
              have y2 : (p : Int) < (k.procs.length : Int) := by omega
              go_still_tail 13, (by kernel_rfl)
              change wpList _ _ _ _ _ W.drew
              have hFD : FC w g v k (.slice Al k.ins.length cl) x9 x10 a b c k.procs.length ((upd k.procs.length p (opsT k 4)).set p y) ((upd k.procs.length p (opsT k 5)).set p (opsN k 5 (ls.take j))) (List.replicate k.procs.length 0) W.drew := hFW.below ((Below.refl _ _).drew)
              have honD : W.drew.ownsRow wo.heap.size 3 1 (.slice (some adn) ls.length cn) ls.length (nv ls) := honW
              have dpD : W.drew.cell? ⟨a, p, none⟩ = some (.int .i64 (y : Int)) := dp
              have fpD : W.drew.frozen? ⟨a, p, none⟩ = false := fp
              have caD : W.drew.cell? ⟨wr.heap.size, 0, none⟩ = some (.int .i64 4) := ca0
              clear hFW honW dp fp ca0 ca1 d6
              generalize W.drew = W2 at *
              have hna := (own_lt hF.rca).2
              have hna2 : wr.heap.size ≠ a := by omega
              clear hF k0 k1 k2 k3 k4 k5 k6 c0 c1 c2 c3 c4
              go_wp2_with fail
              go_roundg (ls.length - (j + 1))
              case measure => omega
              case rel =>
                have e1 : bits .or .i64 (y : Int) (wrap64 ((2 : Int) ^ min (argN k x) 64)) = ((y ||| 2 ^ argN k x : Nat) : Int) := by
                  rw [Nat.min_eq_left (by omega), shl_one _ (by omega), i64_or_nat _ _ (by omega) (two_pow_lt _ (by omega))]
                have hS := hFD.setA p (y ||| 2 ^ argN k x) e1
                refine ⟨j + 1, by omega, rfl, by go_num, ?_, ?_⟩
                · refine honD.kept (grown_set W2 ⟨a, p, none⟩ _) (.inr fun h1 => ?_)
                  have := (honD.lt a h1).1
                  omega
                · rw [HT4.out, HT5.out, if_pos h4, if_neg (by rw [h4]; decide)]
                  rw [List.set_set] at hS
                  exact hS
            · by_cases h5 : opN k x = 5
              · have e4 : ((5 : Int) == 4) = false := by decide
                have hal := argN_lt HR.out hxl (by rw [h5]; decide)
                rw [h5] at k0
                go_wp2_with fail
                have hb2 := below_alloc0 wr (.cells #[.int .i64 5, .int .i64 (argN k x), .int .i64 k.ins[x].term.kind, .int .i64 k.ins[x].term.num, .string k.ins[x].term.name, .slice A' k.ins[x].term.kids.length c', .int .i64 k.ins[x].to] 52)
                have ca1 := box_cell wr #[.int .i64 5, .int .i64 (argN k x), .int .i64 k.ins[x].term.kind, .int .i64 k.ins[x].term.num, .string k.ins[x].term.name, .slice A' k.ins[x].term.kids.length c', .int .i64 k.ins[x].to] 52 1 rfl
                have ca0 := box_cell wr #[.int .i64 5, .int .i64 (argN k x), .int .i64 k.ins[x].term.kind, .int .i64 k.ins[x].term.num, .string k.ins[x].term.name, .slice A' k.ins[x].term.kids.length c', .int .i64 k.ins[x].to] 52 0 rfl
                generalize wr.alloc (.cells #[.int .i64 5, .int .i64 (argN k x), .int .i64 k.ins[x].term.kind, .int .i64 k.ins[x].term.num, .string k.ins[x].term.name, .slice A' k.ins[x].term.kids.length c', .int .i64 k.ins[x].to] 52) = W at hb2 ca1 ca0 ⊢
                have hFW := hF.below hb2
                have honW := own_below hon hb2
                have d6 := hFW.blk.cell 7 rfl
                have hl4 := HL5.out j
                generalize opsN k 5 (ls.take j) = y at *
                have dp := own_at hFW.rsp hlt (nv_get (y := y) (by rw [List.getElem?_set, if_pos rfl, if_pos (by rw [upd_len]; exact hlt)]))
                have fp := hFW.rsp.frozenAt p
                have y1 : (0 : Int) ≤ (p : Int) := by omega
                have y2 : (p : Int) < (k.procs.length : Int) := by omega
                go_still_tail 13, (by kernel_rfl)
                change wpList _ _ _ _ _ W.drew
                have hFD : FC w g v k (.slice Al k.ins.length cl) x9 x10 a b c k.procs.length ((upd k.procs.length p (opsT k 4)).set p (opsN k 4 (ls.take j))) ((upd k.procs.length p (opsT k 5)).set p y) (List.replicate k.procs.length 0) W.drew := hFW.below ((Below.refl _ _).drew)
                have honD : W.drew.ownsRow wo.heap.size 3 1 (.slice (some adn) ls.length cn) ls.length (nv ls) := honW
                have dpD : W.drew.cell? ⟨b, p, none⟩ = some (.int .i64 (y : Int)) := dp
                have fpD : W.drew.frozen? ⟨b, p, none⟩ = false := fp
                have caD : W.drew.cell? ⟨wr.heap.size, 0, none⟩ = some (.int .i64 5) := ca0
                clear hFW honW dp fp ca0 ca1 d6
                generalize W.drew = W2 at *
                have hna := (own_lt hF.rsp).2
                have hna2 : wr.heap.size ≠ b := by omega
                clear hF k0 k1 k2 k3 k4 k5 k6 c0 c1 c2 c3 c4
                go_wp2_with fail
                go_roundg (ls.length - (j + 1))
                case measure => omega
                case rel =>
                  have e1 : bits .or .i64 (y : Int) (wrap64 ((2 : Int) ^ min (argN k x) 64)) = ((y ||| 2 ^ argN k x : Nat) : Int) := by
                    rw [Nat.min_eq_left (by omega), shl_one _ (by omega), i64_or_nat _ _ (by omega) (two_pow_lt _ (by omega))]
                  have hS := hFD.setB p (y ||| 2 ^ argN k x) e1
                  refine ⟨j + 1, by omega, rfl, by go_num, ?_, ?_⟩
                  · refine honD.kept (grown_set W2 ⟨b, p, none⟩ _) (.inr fun h1 => ?_)
                    have := (honD.lt b h1).1
                    omega
                  · rw [HT4.out, HT5.out, if_neg (by rw [h5]; decide), if_pos h5]
                    rw [List.set_set] at hS
                    exact hS
              · have e4 : (opN k x == 4) = false := by simpa using h4
                have e5 : (opN k x == 5) = false := by simpa using h5
                have hF3 : ∀ o, FC w g v k (.slice Al k.ins.length cl) x9 x10 a b c k.procs.length ((upd k.procs.length p (opsT k 4)).set p (opsN k 4 (ls.take (j + 1)))) ((upd k.procs.length p (opsT k 5)).set p (opsN k 5 (ls.take (j + 1)))) (List.replicate k.procs.length 0) (wr.alloc o) := fun o => by
                  rw [HT4.out, HT5.out, if_neg h4, if_neg h5]
                  exact hF.below (below_alloc0 _ _)
                have HF3 := Lib.hid hF3
                clear h4 h5 hF3
                go_wp2_with fail
                go_roundg (ls.length - (j + 1))
                case measure => omega
                case rel => exact ⟨j + 1, by omega, rfl, by go_num, own_below hon (below_alloc0 _ _), HF3.out _⟩
          · /- done -/
            obtain rfl : j = ls.length := by omega
            go_wp2_with fail
            go_roundg (k.procs.length - (p + 1))
            case measure => omega
            case rel =>
              refine ⟨p + 1, by omega, rfl, by go_num, ?_⟩
              rw [List.take_length, HO4.out, HO5.out] at hF
              have u4 := upd_set (f := opsT k 4) hlt
              have u5 := upd_set (f := opsT k 5) hlt
              rw [← u4, ← u5]
              exact hF
      · obtain rfl : p = k.procs.length := by omega
        rw [upd_all, upd_all] at hF
        have h256 := pow_le_256 HR.out
        have HTL := Lib.hid (show ∀ x ∈ tabL k (opsT k 4), x < 2 ^ 60 from fun x hx => by
          obtain ⟨q, _, rfl⟩ := List.mem_map.1 hx
          have h1 : opsT k 4 q < 2 ^ k.procs.length := setN_lt _ _
          have h2 : (256 : Nat) ≤ 2 ^ 60 := by decide
          omega)
        have HUN := Lib.hid (show ∀ W fr (h : FC w g v k (.slice Al k.ins.length cl) x9 x10 a b c k.procs.length (tabL k (opsT k 4)) (tabL k (opsT k 5)) fr W) (s : Nat), s < 2 ^ k.procs.length →
            Calls Tryz.prog 168 #[.slice (some ⟨a, 0, none⟩) k.procs.length k.procs.length, .int .i64 s] W fun e w' => e = .returned (.int .i64 (unionN (tabL k (opsT k 4)) (bitsTo s 62) : Nat)) ∧ Below W.heap.size W w' from fun W fr h s hs => by
          have := unionOf_any (some ⟨a, 0, none⟩) k.procs.length (tabL k (opsT k 4)) s W (own_rd h.rca) (by rw [tabL_len]; omega) HTL.out (by rw [tabL_len]; exact hs)
          rw [tabL_len] at this
          exact this)
        have HUL := Lib.hid (fun l => union_lt (k := k) (opsT k 4) (fun q => setN_lt _ _) l)
        have HFS := Lib.hid (fun (p s : Nat) h => from_step HR.out (p := p) (s := s) h)
        have HFX := Lib.hid (fun (p s : Nat) hp h0 hs h hc => from_fix HR.out (p := p) (s := s) hp h0 hs h hc)
        rw [← upd_zero k.procs.length (fromT k)] at hF
        clear HTL
        go_wp2_with fail
        go_loopg [87] k.procs.length (fun l i wr => ∃ p : Nat, p ≤ k.procs.length ∧ l = k.procs.length - p ∧ i = .int .i64 p ∧ FC w g v k (.slice Al k.ins.length cl) x9 x10 a b c k.procs.length (tabL k (opsT k 4)) (tabL k (opsT k 5)) (upd k.procs.length p (fromT k)) wr)
        case atStart => exact ⟨0, by omega, by omega, rfl, hF⟩
        case round =>
          clear hF
          obtain ⟨p, hp, rfl, rfl, hF⟩ := hrel
          by_cases hlt : p < k.procs.length
          · have e1 := shl_one p (by omega)
            have hp2 : 2 ^ p < 2 ^ k.procs.length := Nat.pow_lt_pow_right (by omega) hlt
            have HSH := Lib.hid e1
            clear e1
            go_wp2_with fail
            rw [HSH.out]
            obtain ⟨wo, rfl⟩ : ∃ wo : World, wo = wr := ⟨_, rfl⟩
            go_loopg [8, 9] (2 * (2 ^ k.procs.length - 2 ^ p) + 1) (fun l sv ag wr => ∃ (s : Nat) (again : Bool), sv = .int .i64 s ∧ ag = .bool again ∧ s < 2 ^ k.procs.length ∧ s.testBit p = true ∧ (∀ q, s.testBit q = true → FromP k p q) ∧ (again = false → s ||| unionN (tabL k (opsT k 4)) (bitsTo s 62) = s) ∧
              l = 2 * (2 ^ k.procs.length - s) + (if again then 1 else 0) ∧ FC w g v k (.slice Al k.ins.length cl) x9 x10 a b c k.procs.length (tabL k (opsT k 4)) (tabL k (opsT k 5)) (upd k.procs.length p (fromT k)) wr)
            case atStart => exact ⟨2 ^ p, true, rfl, rfl, hp2, Nat.testBit_two_pow_self, fun q hq => by
                rw [Nat.testBit_two_pow] at hq
                exact .inl (of_decide_eq_true hq).symm, by simp, rfl, hF⟩
            case round =>
              clear hF
              obtain ⟨s, again, rfl, rfl, hs, h0, hall, hcl, rfl, hF⟩ := hrel
              have H0 := Lib.hid h0
              have HALL := Lib.hid hall
              have HCL := Lib.hid hcl
              clear h0 hall hcl
              cases again
              · have d8 := hF.blk.cell 8 rfl
                obtain ⟨u, hu⟩ := own_has hF.rfr (j := p) (by omega)
                have fp := hF.rfr.frozenAt p
                have y1 : (0 : Int) ≤ (p : Int) := by omega
                have y2 : (p : Int) < (k.procs.length : Int) := by omega
                go_wp2_with fail
                go_roundg (k.procs.length - (p + 1))
                case measure => omega
                case rel =>
                  refine ⟨p + 1, by omega, rfl, by go_num, ?_⟩
                  have hS := hF.setC p s rfl
                  have e := HFX.out p s hlt H0.out hs HALL.out (HCL.out (by simp))
                  rw [e] at hS
                  have u3 := upd_set (f := fromT k) hlt
                  rw [u3] at hS
                  rw [e]
                  exact hS
              · have d6 := hF.blk.cell 6 rfl
                go_wp2_with fail
                refine (HUN.out _ _ hF s hs).mono ?_
                rintro e w1 ⟨rfl, hb1⟩
                have hF1 := hF.below hb1
                have hul := HUL.out (bitsTo s 62)
                have HST := Lib.hid (HFS.out p s HALL.out)
                have HCC := Lib.hid (show s ||| unionN (tabL k (opsT k 4)) (bitsTo s 62) = s → s ||| unionN (tabL k (opsT k 4)) (bitsTo s 62) = s from id)
                generalize hu : unionN (tabL k (opsT k 4)) (bitsTo s 62) = u at hul HST HCC ⊢
                have HU := Lib.hid hu
                clear hF d6 hu
                have eor := i64_or_nat s u (by omega) (by omega)
                have hol : s ||| u < 2 ^ k.procs.length := Nat.or_lt_two_pow hs hul
                have hge : s ≤ s ||| u := Nat.left_le_or
                have HTB := Lib.hid (show (s ||| u).testBit p = true from by rw [Nat.testBit_or, H0.out]; rfl)
                generalize hm : s ||| u = m at hol hge HTB HST eor HCC
                have HM := Lib.hid hm
                clear hm
                by_cases hmm : m = s
                · subst hmm
                  have en : ((m : Int) != (m : Int)) = false := by simp
                  go_wp2_with fail
                  go_roundg (2 * (2 ^ k.procs.length - m) + (if false then 1 else 0))
                  case measure => simp
                  case rel => exact ⟨m, false, rfl, rfl, hol, HTB.out, HST.out, fun _ => by rw [HU.out]; exact HM.out, rfl, hF1⟩
                · have en : ((m : Int) != (s : Int)) = true := by simp; omega
                  have hlt2 : s < m := by omega
                  clear hmm
                  go_wp2_with fail
                  go_roundg (2 * (2 ^ k.procs.length - m) + (if true then 1 else 0))
                  case measure => simp; omega
                  case rel => exact ⟨m, true, rfl, rfl, hol, HTB.out, HST.out, fun h => by simp at h, rfl, hF1⟩
          · obtain rfl : p = k.procs.length := by omega
            rw [upd_all] at hF
            go_wp2_with fail
            go_end0
            exact ⟨rfl, a, b, c, hF⟩
end Go.Proofs.YtkgoajnnkimkaaaGreat
/- Contract of findRoots. -/
set_option linter.unusedSimpArgs false
set_option linter.unusedVariables false
namespace Go.Proofs.YtkgoajnnkimkaaaGreat
open Go.ChangeShapes Go.WideShapes Go.ChangeAt Go.RowKit

theorem union_tab {k : Cd} {f : Nat → Nat} {s q : Nat} (hn : k.procs.length ≤ 62) : (unionN (tabL k f) (bitsTo s 62)).testBit q = true ↔ ∃ r, r < k.procs.length ∧ s.testBit r = true ∧ (f r).testBit q = true := by
  rw [testBit_unionN]
  constructor
  · rintro ⟨r, h1, h2⟩
    rcases Nat.lt_or_ge r k.procs.length with h | h
    · rw [tabL_get h] at h2
      exact ⟨r, h, (mem_bitsTo.1 h1).2, h2⟩
    · rw [List.getElem?_eq_none (by rw [tabL_len]; exact h)] at h2
      simp at h2
  · rintro ⟨r, h, h1, h2⟩
    refine ⟨r, mem_bitsTo.2 ⟨by omega, h1⟩, ?_⟩
    rw [tabL_get h]
    exact h2
/-- All that is called from the roots in s. -/
noncomputable def usedN (k : Cd) (s : Nat) : Nat := unionN (tabL k (fromT k)) (bitsTo s 62)
/-- The roots in s, and all that are started there. -/
noncomputable def moreN (k : Cd) (s : Nat) : Nat := s ||| unionN (tabL k (opsT k 5)) (bitsTo (usedN k s) 62)
theorem usedN_lt (k : Cd) (s : Nat) : usedN k s < 2 ^ k.procs.length := union_lt (fromT k) (fun q => setN_lt _ _) _
theorem used_bit {k : Cd} (hr : Right k) {s q : Nat} : (usedN k s).testBit q = true ↔ ∃ r, r < k.procs.length ∧ s.testBit r = true ∧ FromP k r q ∧ q < k.procs.length := by
  have := hr.procs
  unfold usedN
  rw [union_tab (by omega)]
  constructor
  · rintro ⟨r, h1, h2, h3⟩
    have := testBit_setN_true.1 h3
    exact ⟨r, h1, h2, this.2, this.1⟩
  · rintro ⟨r, h1, h2, h3, h4⟩
    exact ⟨r, h1, h2, testBit_setN_true.2 ⟨h4, h3⟩⟩
theorem more_bit {k : Cd} (hr : Right k) {s q : Nat} : (moreN k s).testBit q = true ↔ s.testBit q = true ∨ ∃ r, r < k.procs.length ∧ s.testBit r = true ∧ q ∈ startL k r := by
  have hp := hr.procs
  unfold moreN
  rw [Nat.testBit_or, Bool.or_eq_true, union_tab (by omega)]
  constructor
  · rintro (h | ⟨x, h1, h2, h3⟩)
    · exact .inl h
    · obtain ⟨r, g1, g2, g3, _⟩ := (used_bit hr).1 h2
      have h4 := testBit_setN_true.1 h3
      exact .inr ⟨r, g1, g2, mem_listN.2 ⟨h4.1, x, g3, h4.2⟩⟩
  · rintro (h | ⟨r, h1, h2, h3⟩)
    · exact .inl h
    · obtain ⟨h4, x, h5, h6⟩ := mem_listN.1 h3
      have hx := from_lt h1 h5
      exact .inr ⟨x, hx, (used_bit hr).2 ⟨r, h1, h2, h5, hx⟩, testBit_setN_true.2 ⟨h4, h6⟩⟩
theorem root_step {k : Cd} (hr : Right k) {s : Nat} (h : ∀ q, s.testBit q = true → RootP k q) : ∀ q, (moreN k s).testBit q = true → RootP k q := by
  intro q hq
  rcases (more_bit hr).1 hq with h1 | ⟨r, h1, h2, h3⟩
  · exact h q h1
  · exact (h r h2).step h3
theorem root_fix {k : Cd} (hr : Right k) {s : Nat} (h0 : s.testBit (mainN k) = true) (hs : s < 2 ^ k.procs.length) (h : ∀ q, s.testBit q = true → RootP k q) (hc : moreN k s = s) : s = setN k.procs.length (RootP k) ∧ usedN k s = setN k.procs.length (UsedP k) := by
  have hin : ∀ q, RootP k q → s.testBit q = true := fun q hq => hq.inv (P := fun q => s.testBit q = true) h0 fun x hx y hy => by
    rw [← hc, more_bit hr]
    exact .inr ⟨x, lt_of_testBit hs hx, hx, hy⟩
  refine ⟨eq_setN hs fun q _ => ⟨h q, hin q⟩, eq_setN (usedN_lt k s) fun q hq => ?_⟩
  rw [used_bit hr]
  constructor
  · rintro ⟨r, _, h1, h2, _⟩
    exact ⟨r, h r h1, h2⟩
  · rintro ⟨r, h1, h2⟩
    exact ⟨r, root_lt hr h1, hin r h1, h2, hq⟩
section
variable {w wr w1 : World} {g : Nat} {v : CV} {k : Cd} {x5 x9 x10 : Value} {a b c n : Nat} {ca sp fr : List Nat}
theorem FC.setU (h : FC w g v k x5 x9 x10 a b c n ca sp fr wr) (x : Value) : FC w g v k x5 x9 x a b c n ca sp fr (wr.setCell ⟨g, 10, none⟩ x) := by
  have hn := h.ne
  have s2 := grown_set wr ⟨g, 10, none⟩ x
  refine ⟨h.ab, h.ac, h.bc, h.rca.kept s2 (.inr ?_), h.rsp.kept s2 (.inr ?_), h.rfr.kept s2 (.inr ?_), h.blk.set10 x, h.grown.trans s2, h.g_lt⟩
  all_goals simp [Value.ownBlock]
  all_goals omega
theorem FC.setR (h : FC w g v k x5 x9 x10 a b c n ca sp fr wr) (x : Value) : FC w g v k x5 x x10 a b c n ca sp fr (wr.setCell ⟨g, 9, none⟩ x) := by
  have hn := h.ne
  have s2 := grown_set wr ⟨g, 9, none⟩ x
  refine ⟨h.ab, h.ac, h.bc, h.rca.kept s2 (.inr ?_), h.rsp.kept s2 (.inr ?_), h.rfr.kept s2 (.inr ?_), h.blk.set9 x, h.grown.trans s2, h.g_lt⟩
  all_goals simp [Value.ownBlock]
  all_goals omega
end
/-- The set of the roots, and of what is used. -/
noncomputable def rootsN (k : Cd) : Nat := setN k.procs.length (RootP k)
noncomputable def usedS (k : Cd) : Nat := setN k.procs.length (UsedP k)

set_option maxRecDepth 100000 in
set_option maxHeartbeats 2000000 in
theorem findRoots_any {B : Nat} (g : Nat) (v : CV) (k : Cd) (x5 x9 x10 : Value) (a b c : Nat) (w0 w : World) (hr : Right k) (hk : CodeAt w0 B v k) (hB : B ≤ g)
    (hF : FC w0 g v k x5 x9 x10 a b c k.procs.length (tabL k (opsT k 4)) (tabL k (opsT k 5)) (tabL k (fromT k)) w) :
    Calls Tryz.prog 153 #[.pointer (some ⟨g, 0, none⟩)] w fun e w' => e = .returned (.tuple #[]) ∧ FC w0 g v k x5 (.int .i64 (rootsN k : Nat)) (.int .i64 (usedS k : Nat)) a b c k.procs.length (tabL k (opsT k 4)) (tabL k (opsT k 5)) (tabL k (fromT k)) w' := by
  have hpl := hr.procs
  have h256 := pow_le_256 hr
  have hml := mainN_lt hr
  have hm2 : 2 ^ mainN k < 2 ^ k.procs.length := Nat.pow_lt_pow_right (by omega) hml
  have hgl := hF.g_lt
  have HMP := Lib.hid (mainProc_any g v k w hr (hk.below (below_grown hF.grown (by omega) hB)) hF.blk.kat)
  have h60 : ∀ (f : Nat → Nat), (∀ q, f q < 2 ^ k.procs.length) → ∀ x ∈ tabL k f, x < 2 ^ 60 := fun f hf x hx => by
    obtain ⟨q, _, rfl⟩ := List.mem_map.1 hx
    have h1 := hf q
    have h2 : (256 : Nat) ≤ 2 ^ 60 := by decide
    omega
  have HUF := Lib.hid (show ∀ W x9 x10 (h : FC w0 g v k x5 x9 x10 a b c k.procs.length (tabL k (opsT k 4)) (tabL k (opsT k 5)) (tabL k (fromT k)) W) (s : Nat), s < 2 ^ k.procs.length →
      Calls Tryz.prog 168 #[.slice (some ⟨c, 0, none⟩) k.procs.length k.procs.length, .int .i64 s] W fun e w' => e = .returned (.int .i64 (usedN k s : Nat)) ∧ Below W.heap.size W w' from fun W x9 x10 h s hs => by
    have := unionOf_any (some ⟨c, 0, none⟩) k.procs.length (tabL k (fromT k)) s W (own_rd h.rfr) (by rw [tabL_len]; omega) (h60 _ fun q => setN_lt _ _) (by rw [tabL_len]; exact hs)
    rw [tabL_len] at this
    exact this)
  have HUS := Lib.hid (show ∀ W x9 x10 (h : FC w0 g v k x5 x9 x10 a b c k.procs.length (tabL k (opsT k 4)) (tabL k (opsT k 5)) (tabL k (fromT k)) W) (s : Nat), s < 2 ^ k.procs.length →
      Calls Tryz.prog 168 #[.slice (some ⟨b, 0, none⟩) k.procs.length k.procs.length, .int .i64 s] W fun e w' => e = .returned (.int .i64 (unionN (tabL k (opsT k 5)) (bitsTo s 62) : Nat)) ∧ Below W.heap.size W w' from fun W x9 x10 h s hs => by
    have := unionOf_any (some ⟨b, 0, none⟩) k.procs.length (tabL k (opsT k 5)) s W (own_rd h.rsp) (by rw [tabL_len]; omega) (h60 _ fun q => setN_lt _ _) (by rw [tabL_len]; exact hs)
    rw [tabL_len] at this
    exact this)
  have HRS := Lib.hid (fun s h => root_step hr (s := s) h)
  have HRX := Lib.hid (fun s h0 hs h hc => root_fix hr (s := s) h0 hs h hc)
  have HUL := Lib.hid (fun s => usedN_lt k s)
  have HUL5 := Lib.hid (fun l => union_lt (k := k) (opsT k 5) (fun q => setN_lt _ _) l)
  have HSH := Lib.hid (shl_one (mainN k) (by omega))
  clear h60 hk hr
  go_enter Tryz.func153, Tryz.ntmps153
  go_wp2_with fail
  refine HMP.out.mono ?_
  rintro e w1 ⟨rfl, hb1⟩
  have hF1 := hF.below hb1
  clear hF hb1
  go_wp2_with fail
  rw [HSH.out]
  go_loopg [2, 3] (2 * (2 ^ k.procs.length - 2 ^ mainN k) + 1) (fun l sv ag wr => ∃ (s : Nat) (again : Bool) (x : Value), sv = .int .i64 s ∧ ag = .bool again ∧ s < 2 ^ k.procs.length ∧ s.testBit (mainN k) = true ∧ (∀ q, s.testBit q = true → RootP k q) ∧ (again = false → moreN k s = s ∧ x = .int .i64 (usedN k s : Nat)) ∧
    l = 2 * (2 ^ k.procs.length - s) + (if again then 1 else 0) ∧ FC w0 g v k x5 x9 x a b c k.procs.length (tabL k (opsT k 4)) (tabL k (opsT k 5)) (tabL k (fromT k)) wr)
  case atStart => exact ⟨2 ^ mainN k, true, _, rfl, rfl, hm2, Nat.testBit_two_pow_self, fun q hq => by
      rw [Nat.testBit_two_pow] at hq
      exact .inl (of_decide_eq_true hq).symm, by simp, rfl, hF1⟩
  case round =>
    clear hF1
    obtain ⟨s, again, x, rfl, rfl, hs, h0, hall, hcl, rfl, hF⟩ := hrel
    have H0 := Lib.hid h0
    have HALL := Lib.hid hall
    have HCL := Lib.hid hcl
    clear h0 hall hcl
    cases again
    · have d9 := hF.blk.cell 9 rfl
      have f9 := hF.blk.free 9
      go_wp2_with fail
      go_end0
      obtain ⟨h1, h2⟩ := HCL.out (by simp)
      obtain ⟨e1, e2⟩ := HRX.out s H0.out hs HALL.out h1
      subst h2
      rw [e2] at hF
      have hS := hF.setR (.int .i64 (s : Int))
      refine ⟨rfl, ?_⟩
      have e3 : rootsN k = s := e1.symm
      rw [e3]
      exact hS
    · have d8 := hF.blk.cell 8 rfl
      go_wp2_with fail
      refine (HUF.out _ _ _ hF s hs).mono ?_
      rintro e w2 ⟨rfl, hb2⟩
      have hF2 := hF.below hb2
      have d10 := hF2.blk.cell 10 rfl
      have f10 := hF2.blk.free 10
      have hS := hF2.setU (.int .i64 (usedN k s : Nat))
      have HCC := Lib.hid (show moreN k s = s ||| unionN (tabL k (opsT k 5)) (bitsTo (usedN k s) 62) from rfl)
      have hul := HUL.out s
      have HST := Lib.hid (HRS.out s HALL.out)
      have HUU := Lib.hid (show usedN k s = usedN k s from rfl)
      generalize hu : usedN k s = u at hul hS HCC HUU ⊢
      have HU := Lib.hid hu
      clear hu hF hF2 d8
      go_wp2_with fail
      generalize w2.setCell ⟨g, 10, none⟩ (.int .i64 (u : Int)) = W at hS ⊢
      have c7 : W.cell? ⟨g, 7, none⟩ = some (.slice (some ⟨b, 0, none⟩) k.procs.length k.procs.length) := hS.blk.cell 7 rfl
      have c10 : W.cell? ⟨g, 10, none⟩ = some (.int .i64 (u : Int)) := hS.blk.cell 10 rfl
      go_region_held3 (fun w' => Below W.heap.size W w' ∧ w'.cell? ⟨g, 7, none⟩ = some (.slice (some ⟨b, 0, none⟩) k.procs.length k.procs.length) ∧ w'.cell? ⟨g, 10, none⟩ = some (.int .i64 (u : Int)))
        (first | exact ⟨(Below.refl _ _).drew, c7, c10⟩ | assumption | (go_split_ands; refine ⟨below_trans' (by assumption) hb3, ?_, ?_⟩ <;> exact cell_below hb3 (by assumption)))
        (first | (go_at_call 168; go_split_ands; refine (HUS.out _ _ _ (hS.below (by assumption)) u hul).mono ?_; rintro e w3 ⟨rfl, hb3⟩))
      have hF3 := hS.below (below_trans' ((Below.refl _ _).drew) hb3)
      clear c7 c10 d10 f10 hS
      have hul2 := HUL5.out (bitsTo u 62)
      generalize unionN (tabL k (opsT k 5)) (bitsTo u 62) = u2 at hul2 HCC ⊢
      have eor := i64_or_nat s u2 (by omega) (by omega)
      have hol : s ||| u2 < 2 ^ k.procs.length := Nat.or_lt_two_pow hs hul2
      have hge : s ≤ s ||| u2 := Nat.left_le_or
      have HTB := Lib.hid (show (s ||| u2).testBit (mainN k) = true from by rw [Nat.testBit_or, H0.out]; rfl)
      generalize s ||| u2 = m at hol hge HTB eor HCC
      by_cases hmm : m = s
      · subst hmm
        have en : ((m : Int) != (m : Int)) = false := by simp
        go_wp2_with fail
        go_roundg (2 * (2 ^ k.procs.length - m) + (if false then 1 else 0))
        case measure => simp
        case rel => exact ⟨m, false, _, rfl, rfl, hol, HTB.out, HALL.out, fun _ => ⟨HCC.out, by rw [HU.out]⟩, rfl, hF3⟩
      · have en : ((m : Int) != (s : Int)) = true := by simp; omega
        have hlt2 : s < m := by omega
        clear hmm
        go_wp2_with fail
        go_roundg (2 * (2 ^ k.procs.length - m) + (if true then 1 else 0))
        case measure => simp; omega
        case rel => exact ⟨m, true, _, rfl, rfl, hol, HTB.out, by have h := HST.out; rw [HCC.out] at h; exact h, fun h => by simp at h, rfl, hF3⟩
end Go.Proofs.YtkgoajnnkimkaaaGreat
