/- Contracts of reach, marked and liveOf. -/
import Derived.Test.YtkgoajnnkimkaaaA9
import Derived.Test.YtkgoajnnkimkaaaC1
set_option linter.unusedSimpArgs false
set_option linter.unusedVariables false
set_option maxRecDepth 100000
set_option maxHeartbeats 16000000
namespace Go.Proofs.Ytkgoajnnkimkaaa
open Go.ChangeShapes Go.WideShapes Go.ChangeAt Go.RowKit
theorem Rd.mark {w : World} {B : Nat} {A : Option Addr} {ms : List Bool} (h : Rd w B A (ms.map bv)) {j : Nat} (hj : j < ms.length) : ∃ ad,A = some ad ∧ ad.block < B ∧ w.cell? (ad.add j) = some (.bool (mkd ms j)):=by
 obtain ⟨ad,e,hb,hc⟩:=h.bool hj;rw [mkd_get hj] at hc;exact ⟨ad,e,hb,hc⟩
end Go.Proofs.Ytkgoajnnkimkaaa
namespace Go.Proofs.Ytkgoajnnkimkaaa
open Go.ChangeShapes Go.WideShapes Go.ChangeAt Go.RowKit
theorem CodeBox.grown {w W W' : World} {v : CV} {k : Cd} {gm : Nat} (h : CodeBox w v k W) (hg : W.grownBy W' (some gm)) (hgm : w.heap.size < gm) : CodeBox w v k W':=by
 obtain ⟨h1,h2,h3⟩:=h;have h4 : KAt W w.heap.size v k:=h3;have hne : some w.heap.size ≠ some gm:=by simp;omega
 exact ⟨h1.trans (below_grown hg (by omega) (by omega)),Nat.lt_of_lt_of_le h2 hg.size,h4.grown hg hne⟩
end Go.Proofs.Ytkgoajnnkimkaaa
namespace Go.Proofs.Ytkgoajnnkimkaaa
open Go.ChangeShapes Go.WideShapes Go.ChangeAt Go.RowKit
def LvAt (W : World) (B g : Nat) (k : Cd) : Prop:=∃ A c,W.cell? ⟨g,5,none⟩ = some (.slice A k.ins.length c) ∧ Rd W B A ((markL k.ins.length (LiveA k)).map bv)
theorem LvAt.below {W W' : World} {B g : Nat} {k : Cd} (h : LvAt W B g k) (hb : Below W.heap.size W W') (hB : B ≤ W.heap.size) : LvAt W' B g k:=by
 obtain ⟨A,c,h1,h2⟩:=h;exact ⟨A,c,cell_below hb h1,h2.below (hb.mono hB)⟩
theorem LvAt.full {W : World} {B g : Nat} {k : Cd} (h : LvAt W B g k) : LvAt W W.heap.size g k:=by
 obtain ⟨A,c,h1,h2⟩:=h;exact ⟨A,c,h1,h2.full⟩
end Go.Proofs.Ytkgoajnnkimkaaa
namespace Go.Proofs.Ytkgoajnnkimkaaa
open Go.ChangeShapes Go.WideShapes Go.ChangeAt Go.RowKit
end Go.Proofs.Ytkgoajnnkimkaaa
