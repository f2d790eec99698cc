/- Code handed over by value: its five cells in a new block. Contracts of small functions over code, of the program. -/
import Derived.Test.YtjnlmiekldflhaaReadsS
set_option linter.unusedSimpArgs false
set_option linter.unusedVariables false
namespace Go.Proofs.Ytjnlmiekldflhaa
open Go.ChangeShapes Go.WideShapes Go.ChangeAt Go.RowKit

/-- Code laid into the new block that w would make next. -/
def CodeBox (w : World) (v : CV) (k : Cd) (W : World) : Prop :=
  Below w.heap.size w W ∧ w.heap.size < W.heap.size ∧ W.cell? ⟨w.heap.size, 0, none⟩ = some (.slice v.gA k.globals.length v.gc) ∧ W.cell? ⟨w.heap.size, 1, none⟩ = some (.slice v.lA k.locks.length v.lc) ∧
    W.cell? ⟨w.heap.size, 2, none⟩ = some (.slice v.pA k.procs.length v.pc) ∧ W.cell? ⟨w.heap.size, 3, none⟩ = some (.slice v.eA k.entry.length v.ec) ∧ W.cell? ⟨w.heap.size, 4, none⟩ = some (.slice v.iA k.ins.length v.ic)
theorem codeBox (w : World) (v : CV) (k : Cd) : CodeBox w v k (w.alloc (.cells #[.slice v.gA k.globals.length v.gc, .slice v.lA k.locks.length v.lc, .slice v.pA k.procs.length v.pc, .slice v.eA k.entry.length v.ec, .slice v.iA k.ins.length v.ic] 33)) :=
  ⟨below_alloc0 _ _, alloc_size _ _, box_cell _ _ _ 0 rfl, box_cell _ _ _ 1 rfl, box_cell _ _ _ 2 rfl, box_cell _ _ _ 3 rfl, box_cell _ _ _ 4 rfl⟩
theorem CodeBox.to {w W W' : World} {v : CV} {k : Cd} (h : CodeBox w v k W) (hb : Below W.heap.size W W') : CodeBox w v k W' := by
  obtain ⟨h0, h1, c0, c1, c2, c3, c4⟩ := h
  exact ⟨below_trans' h0 hb, by have := hb.size; omega, cell_below hb c0, cell_below hb c1, cell_below hb c2, cell_below hb c3, cell_below hb c4⟩

/-- The names are right. -/
def mainS : ByteArray := ⟨#[109, 97, 105, 110]⟩
def namesB (k : Cd) : Bool := areNamesB k.globals 6 && (areNamesB k.locks 6 && (areNamesB k.procs 8 && (!twiceB k.globals && (!twiceB k.locks && (!twiceB k.procs && decide (mainS ∈ k.procs))))))

set_option maxHeartbeats 2000000 in
theorem namesRight_any {B L : Nat} (v : CV) (k : Cd) (w : World) (hk : CodeAt w B v k) (hb : CdB L k) (hL : L ≤ 1099511627776) :
    Calls Try.prog 102 #[.agg #[.slice v.gA k.globals.length v.gc, .slice v.lA k.locks.length v.lc, .slice v.pA k.procs.length v.pc, .slice v.eA k.entry.length v.ec, .slice v.iA k.ins.length v.ic]] w fun e w' => e = .returned (.bool (namesB k)) ∧ Below w.heap.size w w' := by
  have hk := hk.full.below (below_alloc0 w (.cells #[.slice v.gA k.globals.length v.gc, .slice v.lA k.locks.length v.lc, .slice v.pA k.procs.length v.pc, .slice v.eA k.entry.length v.ec, .slice v.iA k.ins.length v.ic] 33))
  have hgS : ∀ s ∈ k.globals, s.size ≤ 1099511627776 := fun s hs => by have := hb.globalsS s hs; omega
  have hlS : ∀ s ∈ k.locks, s.size ≤ 1099511627776 := fun s hs => by have := hb.locksS s hs; omega
  have hpS : ∀ s ∈ k.procs, s.size ≤ 1099511627776 := fun s hs => by have := hb.procsS s hs; omega
  have n1 := hb.globals
  have n2 := hb.locks
  have n3 := hb.procs
  have i1 := hk.gl
  have i2 := hk.ll
  have i3 := hk.pl
  have HG := Lib.hid (fun W (h : Rd W w.heap.size v.gA (k.globals.map sv)) => areNames_any v.gA v.gc k.globals 6 W h (by omega) (by omega) hgS)
  have HLk := Lib.hid (fun W (h : Rd W w.heap.size v.lA (k.locks.map sv)) => areNames_any v.lA v.lc k.locks 6 W h (by omega) (by omega) hlS)
  have HP := Lib.hid (fun W (h : Rd W w.heap.size v.pA (k.procs.map sv)) => areNames_any v.pA v.pc k.procs 8 W h (by omega) (by omega) hpS)
  have HG2 := Lib.hid (fun W (h : Rd W w.heap.size v.gA (k.globals.map sv)) => hasTwice_any v.gA v.gc k.globals W h (by omega) i1)
  have HL2 := Lib.hid (fun W (h : Rd W w.heap.size v.lA (k.locks.map sv)) => hasTwice_any v.lA v.lc k.locks W h (by omega) i2)
  have HP2 := Lib.hid (fun W (h : Rd W w.heap.size v.pA (k.procs.map sv)) => hasTwice_any v.pA v.pc k.procs W h (by omega) i3)
  have HP3 := Lib.hid (fun W (h : Rd W w.heap.size v.pA (k.procs.map sv)) => sContains_any v.pA v.pc k.procs mainS W h (by omega))
  have hg := hk.g
  have hl := hk.l
  have hp := hk.p
  have HN := Lib.hid (show namesB k = (areNamesB k.globals 6 && (areNamesB k.locks 6 && (areNamesB k.procs 8 && (!twiceB k.globals && (!twiceB k.locks && (!twiceB k.procs && decide (mainS ∈ k.procs))))))) from rfl)
  clear hgS hlS hpS hb
  generalize areNamesB k.globals 6 = x1 at HN HG
  generalize areNamesB k.locks 6 = x2 at HN HLk
  generalize areNamesB k.procs 8 = x3 at HN HP
  generalize twiceB k.globals = x4 at HN HG2
  generalize twiceB k.locks = x5 at HN HL2
  generalize twiceB k.procs = x6 at HN HP2
  generalize decide (mainS ∈ k.procs) = x7 at HN HP3
  have fin : ∀ y w', y = namesB k → Below w.heap.size w w' → Ending.returned (.bool y) = .returned (.bool (namesB k)) ∧ Below w.heap.size w w' := fun y w' h1 h2 => ⟨by rw [h1], h2⟩
  go_enter Try.func102, Try.ntmps102
  go_wp2_with fail
  refine (HG.out _ hg).mono ?_
  rintro e w' ⟨rfl, rfl⟩
  cases x1
  · go_wp2_with fail
    go_ret
    exact fin _ _ HN.out.symm (below_alloc0 _ _)
  go_wp2_with fail
  refine (HLk.out _ hl).mono ?_
  rintro e w' ⟨rfl, rfl⟩
  cases x2
  · go_wp2_with fail
    go_ret
    exact fin _ _ HN.out.symm (below_alloc0 _ _)
  go_wp2_with fail
  refine (HP.out _ hp).mono ?_
  rintro e w' ⟨rfl, rfl⟩
  cases x3
  · go_wp2_with fail
    go_ret
    exact fin _ _ HN.out.symm (below_alloc0 _ _)
  go_wp2_with fail
  refine (HG2.out _ hg).mono ?_
  rintro e w' ⟨rfl, rfl⟩
  cases x4
  case true =>
    go_wp2_with fail
    go_ret
    exact fin _ _ HN.out.symm (below_alloc0 _ _)
  go_wp2_with fail
  refine (HL2.out _ hl).mono ?_
  rintro e w' ⟨rfl, rfl⟩
  cases x5
  case true =>
    go_wp2_with fail
    go_ret
    exact fin _ _ HN.out.symm (below_alloc0 _ _)
  go_wp2_with fail
  refine (HP2.out _ hp).mono ?_
  rintro e w' ⟨rfl, rfl⟩
  cases x6
  case true =>
    go_wp2_with fail
    go_ret
    exact fin _ _ HN.out.symm (below_alloc0 _ _)
  go_wp2_with fail
  refine (HP3.out _ hp).mono ?_
  rintro e w' ⟨rfl, rfl⟩
  go_wp2_with fail
  go_ret
  exact fin _ _ HN.out.symm (below_alloc0 _ _)
end Go.Proofs.Ytjnlmiekldflhaa
