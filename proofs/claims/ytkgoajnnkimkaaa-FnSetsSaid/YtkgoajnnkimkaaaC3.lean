/- The block of a world; the tables of whom each procedure calls and starts. -/
import Derived.Test.YtkgoajnnkimkaaaC2
import Derived.Deep.CutRange
import Derived.Deep.OwnRows
import Derived.StillTailTactics
set_option linter.unusedSimpArgs false
set_option linter.unusedVariables false
set_option maxRecDepth 100000
set_option maxHeartbeats 16000000
namespace Go.Proofs.Ytkgoajnnkimkaaa
open Go.ChangeShapes Go.WideShapes Go.ChangeAt Go.RowKit
section
variable {W W' : World} {g : Nat} {v : CV} {k : Cd} {x5 x6 x7 x8 x9 x10 : Value}
end
def Zeros (W : World) (base g n : Nat) : Prop:=W.ownsRow base 3 1 (.slice (some ⟨g,0,none⟩) n n) n (nv (List.replicate n 0))
def upd (n p : Nat) (f : Nat → Nat) : List Nat:=(List.range n).map fun q=>if q < p then f q else 0
noncomputable def opsT (k : Cd) (o : Int) (p : Nat) : Nat:=setN k.procs.length (OpsP k o p)
noncomputable def fromT (k : Cd) (p : Nat) : Nat:=setN k.procs.length (FromP k p)
noncomputable def tabL (k : Cd) (f : Nat → Nat) : List Nat:=(List.range k.procs.length).map f
theorem tabL_len (k : Cd) (f : Nat → Nat) : (tabL k f).length = k.procs.length:=by simp [tabL]
theorem tabL_get {k : Cd} {f : Nat → Nat} {q : Nat} (hq : q < k.procs.length) : (tabL k f)[q]? = some (f q):=by simp [tabL,hq]
section
variable {w wr w1 : World} {g : Nat} {v : CV} {k : Cd} {x5 x9 x10 : Value} {a b c n : Nat} {ca sp fr : List Nat}
end
theorem nv_get {xs : List Nat} {j y : Nat} (h : xs[j]? = some y) : (nv xs)[j]? = some (.int .i64 (y : Int)):=by
 have e : (nv xs)[j]? = xs[j]?.map (fun n=>iv (natI n)):=by simp [nv];rfl
 rw [e,h];rfl
end Go.Proofs.Ytkgoajnnkimkaaa
namespace Go.Proofs.Ytkgoajnnkimkaaa
open Go.ChangeShapes Go.WideShapes Go.ChangeAt Go.RowKit
end Go.Proofs.Ytkgoajnnkimkaaa
namespace Go.Proofs.Ytkgoajnnkimkaaa
open Go.ChangeShapes Go.WideShapes Go.ChangeAt Go.RowKit
noncomputable def rootsN (k : Cd) : Nat:=setN k.procs.length (RootP k)
noncomputable def usedS (k : Cd) : Nat:=setN k.procs.length (UsedP k)
end Go.Proofs.Ytkgoajnnkimkaaa
