/- Law helpers over effects: sameEffects on equal data; two codes, two tables of effects and rows of numbers side by side. -/
import Derived.Test.YtkgoajnnkimkaaaGreatMFnTouchesa
set_option linter.unusedSimpArgs false
set_option linter.unusedVariables false
set_option maxRecDepth 100000
set_option maxHeartbeats 16000000
namespace Go.Proofs.YtkgoajnnkimkaaaGreat
open Go.ChangeShapes Go.WideShapes Go.ChangeAt Go.RowKit
theorem hasInt_no {B : Nat} (A : Option Addr) (c : Nat) (xs : List Nat) (n : Nat) (w : World) (h : Rd w B A (nv xs)) (hn : xs.length ≤ 1099511627776) (hm : ¬ n ∈ xs) :
  Calls Tryz.prog 27 #[.slice A xs.length c,.int .i64 (n : Int)] w fun e w'=>e = .returned (.bool false) ∧ Below w.heap.size w w':=by
 have:=hasInt_any A c xs n w h hn
 rwa [decide_eq_false hm] at this
structure LE (w : World) (k : Cd) (gk gs : Nat) (v u : CV) (A A' : Option Addr) (rows : List (Option Addr × List Nat)) (W : World) : Prop where
 ls : LS w k gk gs v u rows W
 t : Rd W W.heap.size A (effCells (effN k))
 t' : Rd W W.heap.size A' (effCells (effN k))
section
variable {w W W' : World} {k : Cd} {gk gs : Nat} {v u : CV} {A A' : Option Addr} {rows : List (Option Addr × List Nat)}
theorem LE.to (h : LE w k gk gs v u A A' rows W) (hb : Below W.heap.size W W') : LE w k gk gs v u A A' rows W':=⟨h.ls.to hb,(h.t.below hb).full,(h.t'.below hb).full⟩
theorem LE.drew (h : LE w k gk gs v u A A' rows W) : LE w k gk gs v u A A' rows W.drew:=h.to (below_drew0 W)
theorem LE.add {R : Option Addr} {xs : List Nat} (h : LE w k gk gs v u A A' rows W) (hr : Rd W W.heap.size R (nv xs)) : LE w k gk gs v u A A' ((R,xs) :: rows) W:=⟨h.ls.add hr,h.t,h.t'⟩
theorem LE.rest {p : Option Addr × List Nat} (h : LE w k gk gs v u A A' (p :: rows) W) : LE w k gk gs v u A A' rows W:=⟨⟨h.ls.lb,fun q hq=>h.ls.rd q (List.mem_cons_of_mem _ hq)⟩,h.t,h.t'⟩
theorem LE.row {ad : Addr} (h : LE w k gk gs v u A (some ad) rows W) {p : Nat} (hp : p < k.procs.length) :
  W.cell? (ad.add (p * 2)) = some (.int .i64 ((keepN k p : Nat) : Int)) ∧ W.cell? ⟨(ad.add (p * 2)).block,(ad.add (p * 2)).off + 1,none⟩ = some (.int .i64 ((gt (genN k) p : Nat) : Int)):=by
 have hl : p < (effN k).length:=by rw [effN_len];exact hp
 obtain ⟨ad',e,_,c0,c1⟩:=h.t'.eff hl;injection e with e;subst e;rw [effN_get hl] at c0 c1;exact ⟨c0,c1⟩
end
end Go.Proofs.YtkgoajnnkimkaaaGreat
