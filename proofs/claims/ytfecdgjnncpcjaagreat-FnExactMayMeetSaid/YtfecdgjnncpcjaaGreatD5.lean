/- Contracts of allProcs; SitesOf and AheadOf, of the program and of the reference. -/
import Derived.Test.YtfecdgjnncpcjaaGreatD4
set_option linter.unusedSimpArgs false
set_option linter.unusedVariables false
namespace Go.Proofs.YtfecdgjnncpcjaaGreat
open Go.ChangeShapes Go.WideShapes Go.ChangeAt Go.RowKit
theorem bitsTo_all {n : Nat} (hn : n ≤ 62) : bitsTo (2 ^ n - 1) 62 = List.range n := by
  have hp := Nat.two_pow_pos n
  rw [bitsTo_stop (2 ^ n - 1) n 62 (by omega) hn]
  unfold bitsTo
  rw [List.filter_eq_self]
  intro i hi
  simp only [List.mem_range] at hi
  rw [Nat.testBit_two_pow_sub_one]
  simpa using hi
/-- The answer's list laid down ahead of all. -/
theorem preOut (w : World) (v : CV) (k : Cd) : CodeBox w v k ((w.alloc (.cells #[.slice v.gA k.globals.length v.gc, .slice v.lA k.locks.length v.lc, .slice v.pA k.procs.length v.pc, .slice v.eA k.entry.length v.ec, .slice v.iA k.ins.length v.ic] 33)).alloc (.cells #[] 3)) ∧ ((w.alloc (.cells #[.slice v.gA k.globals.length v.gc, .slice v.lA k.locks.length v.lc, .slice v.pA k.procs.length v.pc, .slice v.eA k.entry.length v.ec, .slice v.iA k.ins.length v.ic] 33)).alloc (.cells #[] 3)).ownsRow (w.heap.size + 1) 3 1 (.slice (some ⟨w.heap.size + 1, 0, none⟩) 0 0) 0 (nv []) := by
  refine ⟨(codeBox w v k).to (below_alloc0 _ _), ?_⟩
  have := World.ownsRow_lit (base := w.heap.size + 1) (e := 3) (size := 1) (w.alloc (.cells #[.slice v.gA k.globals.length v.gc, .slice v.lA k.locks.length v.lc, .slice v.pA k.procs.length v.pc, .slice v.eA k.entry.length v.ec, .slice v.iA k.ins.length v.ic] 33)) #[] 0 (by simp) (by simp) rfl
  simpa [nv] using this
/-- The box lies in the block that w makes next, the answer's rows behind it. -/
theorem CodeBox.app {w W W' : World} {v : CV} {k : Cd} {e : TypeId} {size n base : Nat} {x : Value} {xs : List Value} (h : CodeBox w v k W) (ho : W.ownsRow base e size x n xs) (hg : W.grownBy W' x.ownBlock) (hb : w.heap.size < base) : CodeBox w v k W' := by
  obtain ⟨h1, h2, h3⟩ := h
  have h4 : KAt W w.heap.size v k := h3
  have hne : some w.heap.size ≠ x.ownBlock := fun h => by
    have := (ho.lt _ h.symm).1
    omega
  refine ⟨h1.grown hg (by omega) fun b hb' => ?_, Nat.lt_of_lt_of_le h2 hg.size, h4.grown hg hne⟩
  have := (ho.lt b hb').1
  omega
theorem l08End_right {B L : Nat} (v : CV) (k : Cd) (p : Nat) (w : World) (hr : Right k) (hk : CodeAt w B v k) (hcb : CdB L k) (hL : L ≤ 1048576) (hp : p < k.procs.length) :
    Calls Tryz.prog 93 #[.agg #[.slice v.gA k.globals.length v.gc, .slice v.lA k.locks.length v.lc, .slice v.pA k.procs.length v.pc, .slice v.eA k.entry.length v.ec, .slice v.iA k.ins.length v.ic], .int .i64 p] w fun r w' => r = .returned (.int .i64 ((fin k p - 1 : Nat) : Int)) ∧ Below w.heap.size w w' := by
  have h1 := hr.fin_eq p hp
  have h2 := hr.lt p hp
  have h3 := hr.procs
  have := l08End_any v k p w hk hcb (by omega) (by omega) (fun h => by
    rw [entryAt_eq k _ h, hr.ent_eq _ h]; omega)
  rw [h1] at this
  have e : ((fin k p : Int) - 1) = ((fin k p - 1 : Nat) : Int) := by omega
  rw [e] at this
  exact this

end Go.Proofs.YtfecdgjnncpcjaaGreat
