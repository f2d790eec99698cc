/- Contracts of szIns, szInsS, szCode. -/
import Derived.Test.YtkgoajnnkimkaaaGreatA6
import Derived.Laws.Rows
set_option linter.unusedSimpArgs false
set_option linter.unusedVariables false
set_option maxRecDepth 100000
set_option maxHeartbeats 16000000
namespace Go.Proofs.YtkgoajnnkimkaaaGreat
open Go.ChangeShapes Go.WideShapes Go.ChangeAt Go.RowKit
end Go.Proofs.YtkgoajnnkimkaaaGreat
namespace Go.Proofs.YtkgoajnnkimkaaaGreat
open Go.ChangeShapes Go.WideShapes Go.ChangeAt Go.RowKit
theorem info_term : (Tryz.prog.info? 50).map (fun i=>(i.zero,i.size,i.bytes)) = some (some (.agg #[.int .i64 0,.int .i64 0,.string ⟨#[]⟩,.slice none 0 0]),4,56):=by kernel_rfl
theorem row_facts {w : World} {g : Nat} {cs : Array Value} {t : TypeId} (h : w.heap[g]? = some (.cells cs t)) : (∀ j v,cs[j]? = some v → w.cell? ⟨g,j,none⟩ = some v) ∧ ∀ j,w.frozen? ⟨g,j,none⟩ = false :=
 ⟨fun j v hv=>by rw [cell_of_row _ _ _ _ _ _ h];exact hv,fun j=>frozen_of_row w g j cs t h⟩
theorem set_row {w : World} {g : Nat} {cs : Array Value} {t : TypeId} {fr : Nat × Nat} (h : w.heap[g]? = some (.cells cs t fr)) (j : Nat) (v : Value) : (w.setCell ⟨g,j,none⟩ v).heap[g]? = some (.cells (cs.setIfInBounds j v) t fr):=by
 unfold World.setCell;simp [Array.getElem?_modify,h]
theorem set_row_other {w : World} {g : Nat} {o : Obj} (h : w.heap[g]? = some o) {a : Addr} (hne : g ≠ a.block) (v : Value) : (w.setCell a v).heap[g]? = some o:=(Below.heap_setCell w a v g hne).trans h
end Go.Proofs.YtkgoajnnkimkaaaGreat
namespace Go.Proofs.YtkgoajnnkimkaaaGreat
open Go.ChangeShapes Go.WideShapes Go.ChangeAt Go.RowKit
structure InTo (w : World) (v : CV) (k : Cd) (r : Array Value) (W : World) : Prop where
 below : Below w.heap.size w W
 size : w.heap.size + 3 ≤ W.heap.size
 arg : W.heap[w.heap.size]? = some (.cells #[.slice v.gA k.globals.length v.gc, .slice v.lA k.locks.length v.lc, .slice v.pA k.procs.length v.pc, .slice v.eA k.entry.length v.ec, .slice v.iA k.ins.length v.ic] 55)
 res : W.heap[w.heap.size + 1]? = some (.cells #[.slice none 0 0,.slice none 0 0,.slice none 0 0,.slice none 0 0,.slice none 0 0] 28)
 out : W.heap[w.heap.size + 1 + 1]? = some (.cells r 28)
section
variable {w W W' : World} {v : CV} {k : Cd} {r : Array Value}
theorem InTo.to (h : InTo w v k r W) (hb : Below W.heap.size W W') : InTo w v k r W':=by
 have:=h.size;exact ⟨below_trans' h.below hb,Nat.le_trans h.size hb.size,(hb.block _ (by omega)).trans h.arg,(hb.block _ (by omega)).trans h.res,(hb.block _ (by omega)).trans h.out⟩
theorem InTo.set (h : InTo w v k r W) (j : Nat) (x : Value) : InTo w v k (r.setIfInBounds j x) (W.setCell ⟨w.heap.size + 1 + 1,j,none⟩ x) :=
 ⟨h.below.setCell (by show w.heap.size ≤ w.heap.size + 1 + 1;omega) _,by simpa using h.size,set_row_other h.arg (by show w.heap.size ≠ w.heap.size + 1 + 1;omega) _,set_row_other h.res (by show w.heap.size + 1 ≠ w.heap.size + 1 + 1;omega) _,set_row h.out _ _⟩
end
theorem own_cap {w : World} {base : Nat} {t : TypeId} {size n c : Nat} {A : Option Addr} {xs : List Value} (h : w.ownsRow base t size (.slice A n c) n xs) : n ≤ c:=by
 rcases h.2 with ⟨e,h0⟩ | ⟨g,cap,cur,e,_,_,hc,_⟩
 · omega
 · injection e with _ _ e3;omega
theorem InTo.high {w W W' : World} {v : CV} {k : Cd} {r : Array Value} (h : InTo w v k r W) (hb : Below W.heap.size W W') (x : Value) (j : Nat) : ∀ p u,(High W (w.heap.size + 3)).cell? p = some u → (High (W'.setCell ⟨w.heap.size + 1 + 1,j,none⟩ x) (w.heap.size + 3)).cell? p = some u :=
 fun p u hp=>high_set (Nat.le_refl _) (by show w.heap.size + 1 + 1 < w.heap.size + 3;omega) _ p u (high_below (Nat.le_refl _) hb p u hp)
def CodeNew (w : World) (k : Cd) (e : Ending) (w' : World) : Prop :=
 ∃ v : CV,e = .returned (.agg #[.slice v.gA k.globals.length v.gc, .slice v.lA k.locks.length v.lc, .slice v.pA k.procs.length v.pc, .slice v.eA k.entry.length v.ec, .slice v.iA k.ins.length v.ic]) ∧ CodeAt (High w' w.heap.size) w'.heap.size v k ∧ Below w.heap.size w w'
end Go.Proofs.YtkgoajnnkimkaaaGreat
