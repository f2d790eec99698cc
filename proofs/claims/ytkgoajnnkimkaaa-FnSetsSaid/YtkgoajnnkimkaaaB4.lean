/- Contracts of eqTerm, eqTermS, eqIns, eqInsS, eqCode on equal data. -/
import Derived.Test.YtkgoajnnkimkaaaA6
set_option linter.unusedSimpArgs false
set_option linter.unusedVariables false
set_option maxRecDepth 100000
set_option maxHeartbeats 16000000
namespace Go.Proofs.Ytkgoajnnkimkaaa
open Go.ChangeShapes Go.WideShapes Go.ChangeAt Go.RowKit
def CodeBox2 (w : World) (v u : CV) (k : Cd) (W : World) : Prop :=
 Below w.heap.size w W ∧ w.heap.size + 1 < W.heap.size ∧
  (W.cell? ⟨w.heap.size,0,none⟩ = some (.slice v.gA k.globals.length v.gc) ∧ W.cell? ⟨w.heap.size,1,none⟩ = some (.slice v.lA k.locks.length v.lc) ∧
  W.cell? ⟨w.heap.size,2,none⟩ = some (.slice v.pA k.procs.length v.pc) ∧ W.cell? ⟨w.heap.size,3,none⟩ = some (.slice v.eA k.entry.length v.ec) ∧ W.cell? ⟨w.heap.size,4,none⟩ = some (.slice v.iA k.ins.length v.ic)) ∧
  W.cell? ⟨w.heap.size + 1,0,none⟩ = some (.slice u.gA k.globals.length u.gc) ∧ W.cell? ⟨w.heap.size + 1,1,none⟩ = some (.slice u.lA k.locks.length u.lc) ∧
  W.cell? ⟨w.heap.size + 1,2,none⟩ = some (.slice u.pA k.procs.length u.pc) ∧ W.cell? ⟨w.heap.size + 1,3,none⟩ = some (.slice u.eA k.entry.length u.ec) ∧ W.cell? ⟨w.heap.size + 1,4,none⟩ = some (.slice u.iA k.ins.length u.ic)
theorem CodeBox2.to {w W W' : World} {v u : CV} {k : Cd} (h : CodeBox2 w v u k W) (hb : Below W.heap.size W W') : CodeBox2 w v u k W':=by
 obtain ⟨h1,h2,⟨c0,c1,c2,c3,c4⟩,d0,d1,d2,d3,d4⟩:=h;exact ⟨below_trans' h1 hb,Nat.lt_of_lt_of_le h2 hb.size,⟨cell_below hb c0,cell_below hb c1,cell_below hb c2,cell_below hb c3,cell_below hb c4⟩,cell_below hb d0,cell_below hb d1,cell_below hb d2,cell_below hb d3,cell_below hb d4⟩
end Go.Proofs.Ytkgoajnnkimkaaa
