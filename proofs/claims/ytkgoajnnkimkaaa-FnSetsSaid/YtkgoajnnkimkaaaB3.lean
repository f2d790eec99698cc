/- Contracts of szIns, szInsS, szCode. -/
import Derived.Test.YtkgoajnnkimkaaaA6
import Derived.Laws.Rows
set_option linter.unusedSimpArgs false
set_option linter.unusedVariables false
set_option maxRecDepth 100000
set_option maxHeartbeats 16000000
namespace Go.Proofs.Ytkgoajnnkimkaaa
open Go.ChangeShapes Go.WideShapes Go.ChangeAt Go.RowKit
end Go.Proofs.Ytkgoajnnkimkaaa
namespace Go.Proofs.Ytkgoajnnkimkaaa
open Go.ChangeShapes Go.WideShapes Go.ChangeAt Go.RowKit
theorem info_term : (Try.prog.info? 75).map (fun i=>(i.zero,i.size,i.bytes)) = some (some (.agg #[.int .i64 0,.int .i64 0,.string ⟨#[]⟩,.slice none 0 0]),4,56):=by kernel_rfl
theorem row_facts {w : World} {g : Nat} {cs : Array Value} {t : TypeId} (h : w.heap[g]? = some (.cells cs t)) : (∀ j v,cs[j]? = some v → w.cell? ⟨g,j,none⟩ = some v) ∧ ∀ j,w.frozen? ⟨g,j,none⟩ = false :=
 ⟨fun j v hv=>by rw [cell_of_row _ _ _ _ _ _ h];exact hv,fun j=>frozen_of_row w g j cs t h⟩
theorem set_row {w : World} {g : Nat} {cs : Array Value} {t : TypeId} {fr : Nat × Nat} (h : w.heap[g]? = some (.cells cs t fr)) (j : Nat) (v : Value) : (w.setCell ⟨g,j,none⟩ v).heap[g]? = some (.cells (cs.setIfInBounds j v) t fr):=by
 unfold World.setCell;simp [Array.getElem?_modify,h]
theorem set_row_other {w : World} {g : Nat} {o : Obj} (h : w.heap[g]? = some o) {a : Addr} (hne : g ≠ a.block) (v : Value) : (w.setCell a v).heap[g]? = some o:=(Below.heap_setCell w a v g hne).trans h
end Go.Proofs.Ytkgoajnnkimkaaa
namespace Go.Proofs.Ytkgoajnnkimkaaa
open Go.ChangeShapes Go.WideShapes Go.ChangeAt Go.RowKit
section
variable {w W W' : World} {v : CV} {k : Cd} {r : Array Value}
end
theorem own_cap {w : World} {base : Nat} {t : TypeId} {size n c : Nat} {A : Option Addr} {xs : List Value} (h : w.ownsRow base t size (.slice A n c) n xs) : n ≤ c:=by
 rcases h.2 with ⟨e,h0⟩ | ⟨g,cap,cur,e,_,_,hc,_⟩
 · omega
 · injection e with _ _ e3;omega
def CodeNew (w : World) (k : Cd) (e : Ending) (w' : World) : Prop :=
 ∃ v : CV,e = .returned (.agg #[.slice v.gA k.globals.length v.gc, .slice v.lA k.locks.length v.lc, .slice v.pA k.procs.length v.pc, .slice v.eA k.entry.length v.ec, .slice v.iA k.ins.length v.ic]) ∧ CodeAt (High w' w.heap.size) w'.heap.size v k ∧ Below w.heap.size w w'
end Go.Proofs.Ytkgoajnnkimkaaa
