/- Law helpers over lists: hasInt, sameInts, hasText, on equal or any data; two codes boxed side by side. -/
import Derived.Test.YtkgoajnnkimkaaaH4
import Derived.Test.YtkgoajnnkimkaaaC4
set_option linter.unusedSimpArgs false
set_option linter.unusedVariables false
set_option maxRecDepth 100000
set_option maxHeartbeats 16000000
namespace Go.Proofs.Ytkgoajnnkimkaaa
open Go.ChangeShapes Go.WideShapes Go.ChangeAt Go.RowKit
theorem below_drew0 (w : World) : Below w.heap.size w w.drew:=(Below.refl _ _).drew
structure LB (w : World) (k : Cd) (gk gs : Nat) (v u : CV) (W : World) : Prop where
 low : Below w.heap.size w W
 kk : KAt W gk v k
 ks : KAt W gs u k
 ck : CodeAt W W.heap.size v k
 cs : CodeAt W W.heap.size u k
theorem LB.to {w W W' : World} {k : Cd} {gk gs : Nat} {v u : CV} (h : LB w k gk gs v u W) (hb : Below W.heap.size W W') : LB w k gk gs v u W' :=
 ⟨below_trans' h.low hb,h.kk.to hb,h.ks.to hb,(h.ck.below hb).full,(h.cs.below hb).full⟩
theorem LB.drew {w W : World} {k : Cd} {gk gs : Nat} {v u : CV} (h : LB w k gk gs v u W) : LB w k gk gs v u W.drew:=h.to (below_drew0 W)
structure LS (w : World) (k : Cd) (gk gs : Nat) (v u : CV) (rows : List (Option Addr × List Nat)) (W : World) : Prop where
 lb : LB w k gk gs v u W
 rd : ∀ p ∈ rows,Rd W W.heap.size p.1 (nv p.2)
section
variable {w W W' : World} {k : Cd} {gk gs : Nat} {v u : CV} {rows : List (Option Addr × List Nat)}
theorem LS.to (h : LS w k gk gs v u rows W) (hb : Below W.heap.size W W') : LS w k gk gs v u rows W':=⟨h.lb.to hb,fun p hp=>((h.rd p hp).below hb).full⟩
theorem LS.drew (h : LS w k gk gs v u rows W) : LS w k gk gs v u rows W.drew:=h.to (below_drew0 W)
theorem LS.add {A : Option Addr} {xs : List Nat} (h : LS w k gk gs v u rows W) (hr : Rd W W.heap.size A (nv xs)) : LS w k gk gs v u ((A,xs) :: rows) W :=
 ⟨h.lb,fun p hp=>by rcases List.mem_cons.1 hp with rfl | hp;exact hr;exact h.rd p hp⟩
end
end Go.Proofs.Ytkgoajnnkimkaaa
