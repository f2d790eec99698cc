/- Contract of worldOf: what is told of a right code's flow. -/
import Derived.Test.YtkgoajnnkimkaaaC3
set_option linter.unusedSimpArgs false
set_option linter.unusedVariables false
set_option maxRecDepth 100000
set_option maxHeartbeats 16000000
namespace Go.Proofs.Ytkgoajnnkimkaaa
open Go.ChangeShapes Go.WideShapes Go.ChangeAt Go.RowKit
def TabAt (W : World) (B g j : Nat) (xs : List Nat) : Prop:=∃ A c,W.cell? ⟨g,j,none⟩ = some (.slice A xs.length c) ∧ Rd W B A (nv xs)
theorem TabAt.below {W W' : World} {B g j : Nat} {xs : List Nat} (h : TabAt W B g j xs) (hb : Below W.heap.size W W') (hB : B ≤ W.heap.size) : TabAt W' B g j xs:=by
 obtain ⟨A,c,h1,h2⟩:=h;exact ⟨A,c,cell_below hb h1,h2.below (hb.mono hB)⟩
theorem TabAt.full {W : World} {B g j : Nat} {xs : List Nat} (h : TabAt W B g j xs) : TabAt W W.heap.size g j xs:=by
 obtain ⟨A,c,h1,h2⟩:=h;exact ⟨A,c,h1,h2.full⟩
structure WAt (W : World) (B g : Nat) (v : CV) (k : Cd) : Prop where
 code : CodeAt W B v k
 kat : KAt W g v k
 live : LvAt W B g k
 calls : TabAt W B g 6 (tabL k (opsT k 4))
 spawns : TabAt W B g 7 (tabL k (opsT k 5))
 frm : TabAt W B g 8 (tabL k (fromT k))
 roots : W.cell? ⟨g,9,none⟩ = some (.int .i64 (rootsN k : Nat))
 used : W.cell? ⟨g,10,none⟩ = some (.int .i64 (usedS k : Nat))
theorem WAt.full {W : World} {B g : Nat} {v : CV} {k : Cd} (h : WAt W B g v k) : WAt W W.heap.size g v k :=
 ⟨h.code.full,h.kat,h.live.full,h.calls.full,h.spawns.full,h.frm.full,h.roots,h.used⟩
theorem WAt.below {W W' : World} {g : Nat} {v : CV} {k : Cd} (h : WAt W W.heap.size g v k) (hb : Below W.heap.size W W') : WAt W' W'.heap.size g v k :=
 ⟨(h.code.below hb).full,h.kat.to hb,(h.live.below hb (Nat.le_refl _)).full,(h.calls.below hb (Nat.le_refl _)).full,(h.spawns.below hb (Nat.le_refl _)).full,(h.frm.below hb (Nat.le_refl _)).full,cell_below hb h.roots,cell_below hb h.used⟩
theorem Rd.low {w : World} {B B' : Nat} {ad : Addr} {xs : List Value} (h : Rd w B (some ad) xs) (hb : ad.block < B') : Rd w B' (some ad) xs:=fun j u hu=>by
 obtain ⟨ad',e,_,hc⟩:=h j u hu;injection e with e;subst e;exact ⟨ad,rfl,hb,hc⟩
end Go.Proofs.Ytkgoajnnkimkaaa
namespace Go.Proofs.Ytkgoajnnkimkaaa
open Go.ChangeShapes Go.WideShapes Go.ChangeAt Go.RowKit
theorem NewNats.more {w w1 w' : World} {xs ys : List Nat} {e : Ending} (h : NewNats w1 xs e w') (hb : Below w.heap.size w w1) (he : ys = xs) : NewNats w ys e w':=by
 subst he;obtain ⟨A,c,h1,h2,h3⟩:=h;exact ⟨A,c,h1,own_mono h2 hb.size,below_trans' hb h3⟩
end Go.Proofs.Ytkgoajnnkimkaaa
