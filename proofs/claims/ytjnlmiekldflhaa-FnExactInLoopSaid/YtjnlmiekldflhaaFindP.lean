/- The block of a world; the tables of whom each procedure calls and starts. -/
import Derived.Test.YtjnlmiekldflhaaUnion
import Derived.Deep.OwnRows
import Derived.Deep.CutRange
import Derived.StillTailTactics
set_option linter.unusedSimpArgs false
set_option linter.unusedVariables false
namespace Go.Proofs.Ytjnlmiekldflhaa
open Go.ChangeShapes Go.WideShapes Go.ChangeAt Go.RowKit

/-- A world's block: the code, and six cells more. -/
def WB (W : World) (g : Nat) (v : CV) (k : Cd) (x5 x6 x7 x8 x9 x10 : Value) : Prop := W.heap[g]? = some (.cells #[.slice v.gA k.globals.length v.gc, .slice v.lA k.locks.length v.lc, .slice v.pA k.procs.length v.pc, .slice v.eA k.entry.length v.ec, .slice v.iA k.ins.length v.ic, x5, x6, x7, x8, x9, x10] 87)
section
variable {W W' : World} {g : Nat} {v : CV} {k : Cd} {x5 x6 x7 x8 x9 x10 : Value}
theorem WB.lt (h : WB W g v k x5 x6 x7 x8 x9 x10) : g < W.heap.size := (Array.getElem?_eq_some_iff.1 h).1
theorem WB.cell (h : WB W g v k x5 x6 x7 x8 x9 x10) (j : Nat) {u : Value} (hu : (#[.slice v.gA k.globals.length v.gc, .slice v.lA k.locks.length v.lc, .slice v.pA k.procs.length v.pc, .slice v.eA k.entry.length v.ec, .slice v.iA k.ins.length v.ic, x5, x6, x7, x8, x9, x10] : Array Value)[j]? = some u) : W.cell? ⟨g, j, none⟩ = some u := by
  rw [cell_of_row _ _ _ _ _ _ h]; exact hu
theorem WB.kat (h : WB W g v k x5 x6 x7 x8 x9 x10) : KAt W g v k := ⟨h.cell 0 rfl, h.cell 1 rfl, h.cell 2 rfl, h.cell 3 rfl, h.cell 4 rfl⟩
theorem WB.free (h : WB W g v k x5 x6 x7 x8 x9 x10) (j : Nat) : W.frozen? ⟨g, j, none⟩ = false := by
  have h : W.heap[g]? = some (.cells _ _ _) := h
  simp [World.frozen?, h]
theorem WB.below (h : WB W g v k x5 x6 x7 x8 x9 x10) (hb : Below W.heap.size W W') : WB W' g v k x5 x6 x7 x8 x9 x10 := (hb.block g h.lt).trans h
theorem WB.grown {row : Option Nat} (h : WB W g v k x5 x6 x7 x8 x9 x10) (hg : W.grownBy W' row) (hne : some g ≠ row) : WB W' g v k x5 x6 x7 x8 x9 x10 := (hg.block g h.lt hne).trans h
theorem WB.set6 (h : WB W g v k x5 x6 x7 x8 x9 x10) (x : Value) : WB (W.setCell ⟨g, 6, none⟩ x) g v k x5 x x7 x8 x9 x10 := set_row h 6 x
theorem WB.set7 (h : WB W g v k x5 x6 x7 x8 x9 x10) (x : Value) : WB (W.setCell ⟨g, 7, none⟩ x) g v k x5 x6 x x8 x9 x10 := set_row h 7 x
theorem WB.set8 (h : WB W g v k x5 x6 x7 x8 x9 x10) (x : Value) : WB (W.setCell ⟨g, 8, none⟩ x) g v k x5 x6 x7 x x9 x10 := set_row h 8 x
theorem WB.set9 (h : WB W g v k x5 x6 x7 x8 x9 x10) (x : Value) : WB (W.setCell ⟨g, 9, none⟩ x) g v k x5 x6 x7 x8 x x10 := set_row h 9 x
theorem WB.set10 (h : WB W g v k x5 x6 x7 x8 x9 x10) (x : Value) : WB (W.setCell ⟨g, 10, none⟩ x) g v k x5 x6 x7 x8 x9 x := set_row h 10 x
end

/-- A row of one's own, all noughts. -/
def Zeros (W : World) (base g n : Nat) : Prop := W.ownsRow base 3 1 (.slice (some ⟨g, 0, none⟩) n n) n (nv (List.replicate n 0))
/-- Three new rows in three cells of the world's block. -/
def Made3 (w : World) (g : Nat) (v : CV) (k : Cd) (x5 x9 x10 : Value) (n : Nat) (w' : World) : Prop :=
  ∃ a b c, a ≠ b ∧ a ≠ c ∧ b ≠ c ∧ Zeros w' w.heap.size a n ∧ Zeros w' w.heap.size b n ∧ Zeros w' w.heap.size c n ∧
    WB w' g v k x5 (.slice (some ⟨a, 0, none⟩) n n) (.slice (some ⟨b, 0, none⟩) n n) (.slice (some ⟨c, 0, none⟩) n n) x9 x10 ∧ w.grownBy w' (some g)

theorem grown_set (w : World) (a : Addr) (x : Value) : w.grownBy (w.setCell a x) (some a.block) :=
  ⟨rfl, rfl, rfl, by simp, fun b _ hne => Below.heap_setCell w a x b (by simpa using hne)⟩
theorem zeros_of {W : World} {base g n : Nat} (h : W.heap[g]? = some (.cells (madeCells #[.int .i64 0] n) 3)) (hb : base ≤ g) (hn : n ≤ 1099511627776) : Zeros W base g n := by
  refine ⟨by simp [nv], .inr ⟨g, n, _, rfl, hb, h, Nat.le_refl _, by unfold maxLen; omega, by simp [size_madeCells], ?_⟩⟩
  rw [toList_madeCells_one, Nat.mul_one, List.take_of_length_le (by simp)]
  simp [nv, iv, natI]
theorem made3_of {w : World} {g : Nat} {v : CV} {k : Cd} {x5 x6 x7 x8 x9 x10 : Value} (hw : WB w g v k x5 x6 x7 x8 x9 x10) {n : Nat} (hn : n ≤ 1099511627776) (x y z : Nat)
    (hx : x = w.heap.size ∨ x = w.heap.size + 1 ∨ x = w.heap.size + 1 + 1) (hy : y = w.heap.size ∨ y = w.heap.size + 1 ∨ y = w.heap.size + 1 + 1) (hz : z = w.heap.size ∨ z = w.heap.size + 1 ∨ z = w.heap.size + 1 + 1) (h1 : x ≠ y) (h2 : x ≠ z) (h3 : y ≠ z) :
    Made3 w g v k x5 x9 x10 n ((((((w.setCell ⟨g, 6, none⟩ (.slice (some ⟨x, 0, none⟩) n n)).setCell ⟨g, 7, none⟩ (.slice (some ⟨y, 0, none⟩) n n)).setCell ⟨g, 8, none⟩ (.slice (some ⟨z, 0, none⟩) n n)).alloc (.cells (madeCells #[.int .i64 0] n) 3)).alloc (.cells (madeCells #[.int .i64 0] n) 3)).alloc (.cells (madeCells #[.int .i64 0] n) 3)).drew := by
  have hg := ((grown_set w ⟨g, 6, none⟩ (.slice (some ⟨x, 0, none⟩) n n)).trans (grown_set _ ⟨g, 7, none⟩ (.slice (some ⟨y, 0, none⟩) n n))).trans (grown_set _ ⟨g, 8, none⟩ (.slice (some ⟨z, 0, none⟩) n n))
  have hb := ((hw.set6 (.slice (some ⟨x, 0, none⟩) n n)).set7 (.slice (some ⟨y, 0, none⟩) n n)).set8 (.slice (some ⟨z, 0, none⟩) n n)
  have hs : (((w.setCell ⟨g, 6, none⟩ (.slice (some ⟨x, 0, none⟩) n n)).setCell ⟨g, 7, none⟩ (.slice (some ⟨y, 0, none⟩) n n)).setCell ⟨g, 8, none⟩ (.slice (some ⟨z, 0, none⟩) n n)).heap.size = w.heap.size := by simp
  generalize ((w.setCell ⟨g, 6, none⟩ (.slice (some ⟨x, 0, none⟩) n n)).setCell ⟨g, 7, none⟩ (.slice (some ⟨y, 0, none⟩) n n)).setCell ⟨g, 8, none⟩ (.slice (some ⟨z, 0, none⟩) n n) = W0 at *
  generalize hM : Obj.cells (madeCells #[Value.int IntKind.i64 0] n) 3 = M
  have e0 := heap_alloc_new W0 M
  have b0 := below_alloc0 W0 M
  have s0 : (W0.alloc M).heap.size = w.heap.size + 1 := by simp [hs]
  generalize W0.alloc M = W1 at *
  have e1 := heap_alloc_new W1 M
  have b1 := below_alloc0 W1 M
  have s1 : (W1.alloc M).heap.size = w.heap.size + 1 + 1 := by simp [s0]
  generalize W1.alloc M = W2 at *
  have e2 := heap_alloc_new W2 M
  have b2 := below_alloc0 W2 M
  generalize W2.alloc M = W3 at *
  rw [hs] at e0
  rw [s0] at e1
  rw [s1] at e2
  have key : ∀ q, q = w.heap.size ∨ q = w.heap.size + 1 ∨ q = w.heap.size + 1 + 1 → W3.drew.heap[q]? = some M := by
    intro q hq
    show W3.heap[q]? = some M
    rcases hq with rfl | rfl | rfl
    · exact (b2.block _ (by omega)).trans ((b1.block _ (by omega)).trans e0)
    · exact (b2.block _ (by omega)).trans e1
    · exact e2
  have hb3 : Below W0.heap.size W0 W3.drew := (below_trans' (below_trans' b0 b1) b2).drew
  refine ⟨x, y, z, h1, h2, h3, zeros_of (by rw [hM]; exact key x hx) (by omega) hn, zeros_of (by rw [hM]; exact key y hy) (by omega) hn, zeros_of (by rw [hM]; exact key z hz) (by omega) hn, hb.below hb3, grownBelow hg hb3⟩

/-- The numbers that the places of a list name with operation o, as bits. -/
def opsN (k : Cd) (o : Int) (l : List Nat) : Nat := l.foldl (fun s a => if opN k a = o then s ||| 2 ^ argN k a else s) 0
theorem opsN_snoc (k : Cd) (o : Int) (l : List Nat) (a : Nat) : opsN k o (l ++ [a]) = if opN k a = o then opsN k o l ||| 2 ^ argN k a else opsN k o l := by simp [opsN]
theorem opsN_bit {k : Cd} {o : Int} {q : Nat} (l : List Nat) : (opsN k o l).testBit q = true ↔ ∃ a ∈ l, opN k a = o ∧ argN k a = q := by
  have key : ∀ (l : List Nat) (s : Nat), (l.foldl (fun s a => if opN k a = o then s ||| 2 ^ argN k a else s) s).testBit q = true ↔ s.testBit q = true ∨ ∃ a ∈ l, opN k a = o ∧ argN k a = q := by
    intro l
    induction l with
    | nil => simp
    | cons a r ih =>
      intro s
      rw [List.foldl_cons, ih]
      by_cases e : opN k a = o
      · rw [if_pos e, Nat.testBit_or, Nat.testBit_two_pow]
        simp only [Bool.or_eq_true, decide_eq_true_eq, List.mem_cons]
        constructor
        · rintro ((h | h) | ⟨x, h1, h2⟩)
          · exact .inl h
          · exact .inr ⟨a, .inl rfl, e, h⟩
          · exact .inr ⟨x, .inr h1, h2⟩
        · rintro (h | ⟨x, rfl | h1, h2⟩)
          · exact .inl (.inl h)
          · exact .inl (.inr h2.2)
          · exact .inr ⟨x, h1, h2⟩
      · rw [if_neg e]
        constructor
        · rintro (h | ⟨x, h1, h2⟩)
          · exact .inl h
          · exact .inr ⟨x, List.mem_cons_of_mem _ h1, h2⟩
        · rintro (h | ⟨x, h1, h2⟩)
          · exact .inl h
          · rcases List.mem_cons.1 h1 with rfl | h1
            · exact absurd h2.1 e
            · exact .inr ⟨x, h1, h2⟩
  unfold opsN
  rw [key]
  simp
theorem lt_two_pow_of_bits {s m : Nat} (h : ∀ i, s.testBit i = true → i < m) : s < 2 ^ m := by
  apply Nat.lt_pow_two_of_testBit
  intro i hi
  cases e : s.testBit i
  · rfl
  · have := h i e; omega
theorem opsN_all {k : Cd} (hr : Right k) {p : Nat} (hp : p < k.procs.length) {o : Int} (ho : o = 4 ∨ o = 5) : opsN k o (listN k.ins.length (LiveP k p)) = setN k.procs.length (OpsP k o p) := by
  have hb : ∀ q, (opsN k o (listN k.ins.length (LiveP k p))).testBit q = true ↔ OpsP k o p q := fun q => by
    rw [opsN_bit]
    constructor
    · rintro ⟨a, h1, h2⟩; exact ⟨a, (mem_listN.1 h1).2, h2⟩
    · rintro ⟨a, h1, h2⟩; exact ⟨a, mem_listN.2 ⟨(live_in hr hp h1).1, h1⟩, h2⟩
  refine eq_setN (lt_two_pow_of_bits fun q h => ops_lt hr hp ho ((hb q).1 h)) fun q _ => hb q
theorem opsN_lt {k : Cd} (hr : Right k) {p : Nat} (hp : p < k.procs.length) {o : Int} (ho : o = 4 ∨ o = 5) (j : Nat) : opsN k o ((listN k.ins.length (LiveP k p)).take j) < 2 ^ 8 := by
  refine lt_two_pow_of_bits fun q h => ?_
  obtain ⟨a, h1, h2, rfl⟩ := (opsN_bit _).1 h
  have h3 := (mem_listN.1 (List.mem_of_mem_take h1)).1
  have h4 := argN_lt hr h3 (by rw [h2]; exact ho)
  have := hr.procs
  omega
/-- A table of which the first p are filled. -/
def upd (n p : Nat) (f : Nat → Nat) : List Nat := (List.range n).map fun q => if q < p then f q else 0
theorem upd_len (n p : Nat) (f : Nat → Nat) : (upd n p f).length = n := by simp [upd]
theorem upd_get {n p q : Nat} {f : Nat → Nat} (hq : q < n) : (upd n p f)[q]? = some (if q < p then f q else 0) := by simp [upd, hq]
theorem upd_zero (n : Nat) (f : Nat → Nat) : upd n 0 f = List.replicate n 0 := by
  apply List.ext_getElem?
  intro i
  rcases Nat.lt_or_ge i n with h | h
  · rw [upd_get h, List.getElem?_replicate, if_pos h]; simp
  · rw [List.getElem?_eq_none (by rw [upd_len]; exact h), List.getElem?_eq_none (by simpa using h)]
theorem upd_set0 {n p : Nat} {f : Nat → Nat} (hp : p < n) : (upd n p f).set p 0 = upd n p f := by
  apply List.ext_getElem?
  intro i
  rw [List.getElem?_set]
  by_cases e : p = i
  · subst e
    rw [if_pos rfl, if_pos (by rw [upd_len]; exact hp), upd_get hp, if_neg (by omega)]
  · rw [if_neg e]
theorem upd_set {n p : Nat} {f : Nat → Nat} (hp : p < n) : (upd n p f).set p (f p) = upd n (p + 1) f := by
  apply List.ext_getElem?
  intro i
  rw [List.getElem?_set]
  by_cases e : p = i
  · subst e
    rw [if_pos rfl, if_pos (by rw [upd_len]; exact hp), upd_get hp, if_pos (by omega)]
  · rw [if_neg e]
    rcases Nat.lt_or_ge i n with h | h
    · rw [upd_get h, upd_get h]
      by_cases h2 : i < p
      · rw [if_pos h2, if_pos (by omega)]
      · rw [if_neg h2, if_neg (by omega)]
    · rw [List.getElem?_eq_none (by rw [upd_len]; exact h), List.getElem?_eq_none (by rw [upd_len]; exact h)]
theorem nv_set (xs : List Nat) (j y : Nat) : (nv xs).set j (.int .i64 (y : Int)) = nv (xs.set j y) := by
  unfold nv
  rw [List.map_set, List.map_set]
  rfl
/-- Whom each procedure calls, or starts. -/
noncomputable def opsT (k : Cd) (o : Int) (p : Nat) : Nat := setN k.procs.length (OpsP k o p)
noncomputable def fromT (k : Cd) (p : Nat) : Nat := setN k.procs.length (FromP k p)
/-- All of them. -/
noncomputable def tabL (k : Cd) (f : Nat → Nat) : List Nat := (List.range k.procs.length).map f
theorem upd_all (k : Cd) (f : Nat → Nat) : upd k.procs.length k.procs.length f = tabL k f := by
  unfold upd tabL
  apply List.map_congr_left
  intro q hq
  rw [if_pos (by simpa using hq)]
theorem tabL_len (k : Cd) (f : Nat → Nat) : (tabL k f).length = k.procs.length := by simp [tabL]
theorem tabL_get {k : Cd} {f : Nat → Nat} {q : Nat} (hq : q < k.procs.length) : (tabL k f)[q]? = some (f q) := by simp [tabL, hq]

/-- The three tables under way. -/
structure FC (w : World) (g : Nat) (v : CV) (k : Cd) (x5 x9 x10 : Value) (a b c n : Nat) (ca sp fr : List Nat) (wr : World) : Prop where
  ab : a ≠ b
  ac : a ≠ c
  bc : b ≠ c
  rca : wr.ownsRow w.heap.size 3 1 (.slice (some ⟨a, 0, none⟩) n n) n (nv ca)
  rsp : wr.ownsRow w.heap.size 3 1 (.slice (some ⟨b, 0, none⟩) n n) n (nv sp)
  rfr : wr.ownsRow w.heap.size 3 1 (.slice (some ⟨c, 0, none⟩) n n) n (nv fr)
  blk : WB wr g v k x5 (.slice (some ⟨a, 0, none⟩) n n) (.slice (some ⟨b, 0, none⟩) n n) (.slice (some ⟨c, 0, none⟩) n n) x9 x10
  grown : w.grownBy wr (some g)
  g_lt : g < w.heap.size
section
variable {w wr w1 : World} {g : Nat} {v : CV} {k : Cd} {x5 x9 x10 : Value} {a b c n : Nat} {ca sp fr : List Nat}
theorem FC.below (h : FC w g v k x5 x9 x10 a b c n ca sp fr wr) (hb : Below wr.heap.size wr w1) : FC w g v k x5 x9 x10 a b c n ca sp fr w1 :=
  ⟨h.ab, h.ac, h.bc, own_below h.rca hb, own_below h.rsp hb, own_below h.rfr hb, h.blk.below hb, grownBelow h.grown hb, h.g_lt⟩
theorem FC.ne (h : FC w g v k x5 x9 x10 a b c n ca sp fr wr) : g ≠ a ∧ g ≠ b ∧ g ≠ c := by
  have h1 := (own_lt h.rca).1
  have h2 := (own_lt h.rsp).1
  have h3 := (own_lt h.rfr).1
  have := h.g_lt
  omega
theorem FC.setA (h : FC w g v k x5 x9 x10 a b c n ca sp fr wr) (j y : Nat) {u : Int} (hu : u = y) : FC w g v k x5 x9 x10 a b c n (ca.set j y) sp fr (wr.setCell ⟨a, j, none⟩ (.int .i64 u)) := by
  subst hu
  obtain ⟨s1, s2⟩ := h.rca.stored j (.int .i64 (y : Int))
  rw [nv_set] at s1
  have hn := h.ne
  refine ⟨h.ab, h.ac, h.bc, s1, h.rsp.kept s2 (.inr ?_), h.rfr.kept s2 (.inr ?_), h.blk.grown s2 (by simp; omega), grownNew h.grown s2 fun x hx => ?_, h.g_lt⟩
  · simp [Value.ownBlock]; exact fun e => h.ab e.symm
  · simp [Value.ownBlock]; exact fun e => h.ac e.symm
  · injection hx with hx; subst hx; exact (own_lt h.rca).1
theorem FC.setB (h : FC w g v k x5 x9 x10 a b c n ca sp fr wr) (j y : Nat) {u : Int} (hu : u = y) : FC w g v k x5 x9 x10 a b c n ca (sp.set j y) fr (wr.setCell ⟨b, j, none⟩ (.int .i64 u)) := by
  subst hu
  obtain ⟨s1, s2⟩ := h.rsp.stored j (.int .i64 (y : Int))
  rw [nv_set] at s1
  have hn := h.ne
  refine ⟨h.ab, h.ac, h.bc, h.rca.kept s2 (.inr ?_), s1, h.rfr.kept s2 (.inr ?_), h.blk.grown s2 (by simp; omega), grownNew h.grown s2 fun x hx => ?_, h.g_lt⟩
  · simp [Value.ownBlock]; exact h.ab
  · simp [Value.ownBlock]; exact fun e => h.bc e.symm
  · injection hx with hx; subst hx; exact (own_lt h.rsp).1
theorem FC.setC (h : FC w g v k x5 x9 x10 a b c n ca sp fr wr) (j y : Nat) {u : Int} (hu : u = y) : FC w g v k x5 x9 x10 a b c n ca sp (fr.set j y) (wr.setCell ⟨c, j, none⟩ (.int .i64 u)) := by
  subst hu
  obtain ⟨s1, s2⟩ := h.rfr.stored j (.int .i64 (y : Int))
  rw [nv_set] at s1
  have hn := h.ne
  refine ⟨h.ab, h.ac, h.bc, h.rca.kept s2 (.inr ?_), h.rsp.kept s2 (.inr ?_), s1, h.blk.grown s2 (by simp; omega), grownNew h.grown s2 fun x hx => ?_, h.g_lt⟩
  · simp [Value.ownBlock]; exact h.ac
  · simp [Value.ownBlock]; exact h.bc
  · injection hx with hx; subst hx; exact (own_lt h.rfr).1
end
theorem nv_get {xs : List Nat} {j y : Nat} (h : xs[j]? = some y) : (nv xs)[j]? = some (.int .i64 (y : Int)) := by
  have e : (nv xs)[j]? = xs[j]?.map (fun n => iv (natI n)) := by simp [nv]; rfl
  rw [e, h]
  rfl
/-- The places that were looked at put their numbers into the table. -/
theorem FC.start {w : World} {g : Nat} {v : CV} {k : Cd} {x5 x9 x10 : Value} {n : Nat} {w' : World} (h : Made3 w g v k x5 x9 x10 n w') (hg : g < w.heap.size) : ∃ a b c, FC w g v k x5 x9 x10 a b c n (List.replicate n 0) (List.replicate n 0) (List.replicate n 0) w' := by
  obtain ⟨a, b, c, h1, h2, h3, h4, h5, h6, h7, h8⟩ := h
  exact ⟨a, b, c, h1, h2, h3, h4, h5, h6, h7, h8, hg⟩
/-- What is called from p: a set that is closed. -/
theorem from_step {k : Cd} (hr : Right k) {p s : Nat} (h : ∀ q, s.testBit q = true → FromP k p q) : ∀ q, (s ||| unionN (tabL k (opsT k 4)) (bitsTo s 62)).testBit q = true → FromP k p q := by
  intro q hq
  rw [Nat.testBit_or, Bool.or_eq_true, testBit_unionN] at hq
  rcases hq with hq | ⟨i, hi, hq⟩
  · exact h q hq
  · have hs := (mem_bitsTo.1 hi).2
    rcases Nat.lt_or_ge i k.procs.length with h1 | h1
    · rw [tabL_get h1] at hq
      simp only [Option.getD_some] at hq
      have h2 := testBit_setN_true.1 hq
      exact (h i hs).step (mem_listN.2 h2)
    · rw [List.getElem?_eq_none (by rw [tabL_len]; exact h1)] at hq
      simp at hq
theorem from_fix {k : Cd} (hr : Right k) {p s : Nat} (hp : p < k.procs.length) (h0 : s.testBit p = true) (hs : s < 2 ^ k.procs.length) (h : ∀ q, s.testBit q = true → FromP k p q) (hc : s ||| unionN (tabL k (opsT k 4)) (bitsTo s 62) = s) : s = fromT k p := by
  refine eq_setN hs fun q _ => ⟨h q, fun hq => ?_⟩
  refine hq.inv (P := fun q => s.testBit q = true) h0 fun x hx y hy => ?_
  rw [← hc, Nat.testBit_or, Bool.or_eq_true, testBit_unionN]
  have hxl := lt_of_testBit hs hx
  have := hr.procs
  refine .inr ⟨x, mem_bitsTo.2 ⟨by omega, hx⟩, ?_⟩
  rw [tabL_get hxl]
  exact testBit_setN_true.2 (mem_listN.1 hy)
theorem union_lt {k : Cd} (f : Nat → Nat) (hf : ∀ q, f q < 2 ^ k.procs.length) (l : List Nat) : unionN (tabL k f) l < 2 ^ k.procs.length :=
  unionN_lt (fun s hs => by
    unfold tabL at hs
    obtain ⟨q, _, rfl⟩ := List.mem_map.1 hs
    exact hf q) l
theorem pow_le_256 {k : Cd} (hr : Right k) : 2 ^ k.procs.length ≤ 256 := (Nat.pow_le_pow_right (by omega) hr.procs : 2 ^ k.procs.length ≤ 2 ^ 8)

end Go.Proofs.Ytjnlmiekldflhaa
