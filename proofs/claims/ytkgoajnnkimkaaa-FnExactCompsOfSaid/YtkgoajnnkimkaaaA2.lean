/- Words for memory: a slice that reads as a list of cells; rows of the call's own; laws for make and append at the element types of this program. -/
import Derived.Test.YtkgoajnnkimkaaaA1
import Derived.Below
import Derived.BigQuiet
import Derived.Deep.AppendLies
import Derived.Deep.Draws
import Derived.Deep.QuietTactic
import Derived.Laws.OwnMore
import Derived.Lib.Hide
import Derived.LoopTactic
import Derived.Maps.AppendAt
import Derived.OpenShut
import Derived.Outline
import Derived.OwnWalk
import Derived.ProofKit
import Derived.RegionTactic
import Derived.Test.YtkgoajnnkimkaaaRows
set_option linter.unusedSimpArgs false
set_option linter.unusedVariables false
set_option maxRecDepth 100000
set_option maxHeartbeats 16000000
namespace Go.Proofs.Ytkgoajnnkimkaaa
open Go.ChangeShapes Go.WideShapes Go.ChangeAt Go.RowKit
theorem block_of_add (a : Addr) (n : Nat) : (a.add n).block = a.block:=by unfold Addr.add;split <;> rfl
theorem add_of_add (a : Addr) (i j : Nat) : (a.add i).add j = a.add (i + j):=by
 unfold Addr.add;by_cases hi : i = 0 <;> by_cases hj : j = 0 <;> simp [hi,hj,Nat.add_assoc]
theorem add_mk (g j : Nat) : (⟨g,0,none⟩ : Addr).add j = ⟨g,j,none⟩:=by
 unfold Addr.add;by_cases h : j = 0 <;> simp [h]
def Rd (w : World) (B : Nat) (A : Option Addr) (xs : List Value) : Prop :=
 ∀ j u,xs[j]? = some u → ∃ ad,A = some ad ∧ ad.block < B ∧ w.cell? (ad.add j) = some u
def iv (n : Int) : Value:=.int .i64 n
def bv (b : Bool) : Value:=.bool b
def sv (s : ByteArray) : Value:=.string s
section
variable {w w' : World} {B B' : Nat} {A : Option Addr} {xs : List Value}
theorem Rd.nil : Rd w B A []:=fun j u h=>by simp at h
theorem Rd.keep (h : Rd w B A xs) (hk : ∀ p : Addr,p.block < B → w'.cell? p = w.cell? p) : Rd w' B A xs:=fun j u hu=>by
 obtain ⟨ad,e,hb,hc⟩:=h j u hu;exact ⟨ad,e,hb,(hk _ (by rw [block_of_add];exact hb)).trans hc⟩
theorem Rd.mono (h : Rd w B A xs) (hB : B ≤ B') : Rd w B' A xs:=fun j u hu=>by
 obtain ⟨ad,e,hb,hc⟩:=h j u hu;exact ⟨ad,e,by omega,hc⟩
theorem Rd.full (h : Rd w B A xs) : Rd w w.heap.size A xs:=fun j u hu=>by
 obtain ⟨ad,e,hb,hc⟩:=h j u hu;have:=World.block_lt_of_cell? w _ hc;rw [block_of_add] at this;exact ⟨ad,e,this,hc⟩
theorem Rd.below (h : Rd w B A xs) (hb : Below B w w') : Rd w' B A xs:=h.keep fun _ hp=>hb.cell hp
theorem Rd.drewN (h : Rd w B A xs) (n : Nat) : Rd (w.drewN n) B A xs:=h
theorem Rd.int {zs : List Int} (h : Rd w B A (zs.map iv)) {k : Nat} (hk : k < zs.length) : ∃ ad,A = some ad ∧ ad.block < B ∧ w.cell? (ad.add k) = some (.int .i64 zs[k]) :=
 h k _ (by simp [hk,iv])
theorem Rd.bool {zs : List Bool} (h : Rd w B A (zs.map bv)) {k : Nat} (hk : k < zs.length) : ∃ ad,A = some ad ∧ ad.block < B ∧ w.cell? (ad.add k) = some (.bool zs[k]) :=
 h k _ (by simp [hk,bv])
theorem Rd.str {zs : List ByteArray} (h : Rd w B A (zs.map sv)) {k : Nat} (hk : k < zs.length) : ∃ ad,A = some ad ∧ ad.block < B ∧ w.cell? (ad.add k) = some (.string zs[k]) :=
 h k _ (by simp [hk,sv])
theorem below_drewN {a : World} (h : Below B a w) (n : Nat) : Below B a (w.drewN n):=⟨h.os,h.tape,h.output,h.size,h.block⟩
theorem below_of_drewN {n : Nat} (h : w' = w.drewN n) : Below B w w':=by subst h;exact below_drewN (Below.refl _ _) n
theorem below_trans' {a : World} (h : Below a.heap.size a w) (k : Below w.heap.size w w') : Below a.heap.size a w':=h.trans (k.mono h.size)
variable {base : Nat} {t : TypeId} {size n : Nat} {v : Value}
theorem own_form (h : w.ownsRow base t size v n xs) : ∃ A c,v = .slice A n c:=by
 rcases h.2 with ⟨rfl,rfl⟩ | ⟨g,cap,cur,rfl,_⟩
 · exact ⟨_,_,rfl⟩
 · exact ⟨_,_,rfl⟩
theorem own_mono (h : w.ownsRow base t size v n xs) {b : Nat} (hb : b ≤ base) : w.ownsRow b t size v n xs:=by
 refine ⟨h.1,?_⟩;rcases h.2 with h0 | ⟨g,cap,cur,e,hg,r⟩
 · exact .inl h0
 · exact .inr ⟨g,cap,cur,e,by omega,r⟩
theorem own_rd {c : Nat} (h : w.ownsRow base t size (.slice A n c) n xs) : Rd w w.heap.size A xs:=by
 intro j u hu;rcases h.2 with ⟨e,h0⟩ | ⟨g,cap,cur,e,hg,hh,_⟩
 · have:=h.1;rw [h0] at this;have : xs = []:=List.eq_nil_of_length_eq_zero (by simpa using this);subst this;simp at hu
 · injection e with e1 e2 e3;subst e1;exact ⟨_,rfl,(Array.getElem?_eq_some_iff.1 hh).1,h.cells (g:=g) rfl j u hu⟩
theorem own_below (h : w.ownsRow base t size v n xs) (hb : Below w.heap.size w w') : w'.ownsRow base t size v n xs:=by
 refine ⟨h.1,?_⟩;rcases h.2 with h0 | ⟨g,cap,cur,e,hg,hh,r⟩
 · exact .inl h0
 · exact .inr ⟨g,cap,cur,e,hg,(hb.block g (Array.getElem?_eq_some_iff.1 hh).1).trans hh,r⟩
theorem own_has {g c : Nat} (h : w.ownsRow base t size (.slice (some ⟨g,0,none⟩) n c) n xs) {j : Nat} (hj : j < n * size) : ∃ u,w.cell? ⟨g,j,none⟩ = some u:=by
 rw [h.cellAt j hj];exact ⟨xs[j]'(by rw [h.1];exact hj),List.getElem?_eq_getElem _⟩
theorem own_len (h : w.ownsRow base t 1 v n xs) : xs.length = n:=by simpa using h.1
end
theorem rd_new (w : World) (cs : Array Value) (t : TypeId) (g : Nat) (hg : g = w.heap.size) : Rd (w.alloc (.cells cs t)) (g + 1) (some ⟨g,0,none⟩) cs.toList:=by
 subst hg;intro j u hu;refine ⟨_,rfl,by simp,?_⟩;rw [add_mk,cell_of_row _ _ _ _ _ _ (heap_alloc_new w _)];simpa using hu
theorem box_cell (w : World) (cs : Array Value) (t : TypeId) (j : Nat) {u : Value} (h : cs[j]? = some u) : (w.alloc (.cells cs t)).cell? ⟨w.heap.size,j,none⟩ = some u:=by
 rw [cell_of_row _ _ _ _ _ _ (heap_alloc_new w _)];exact h
theorem alloc_size (w : World) (o : Obj) : w.heap.size < (w.alloc o).heap.size:=by simp
theorem cell_below {w w' : World} (hb : Below w.heap.size w w') {a : Addr} {v : Value} (h : w.cell? a = some v) : w'.cell? a = some v:=(hb.cell (World.block_lt_of_cell? w a h)).trans h
theorem cb2 {w w' : World} (hb : Below w.heap.size w w') {a0 a1 : Addr} {v0 v1 : Value} (h0 : w.cell? a0 = some v0) (h1 : w.cell? a1 = some v1) : w'.cell? a0 = some v0 ∧ w'.cell? a1 = some v1:=⟨cell_below hb h0,cell_below hb h1⟩
theorem cb3 {w w' : World} (hb : Below w.heap.size w w') {a0 a1 a2 : Addr} {v0 v1 v2 : Value} (h0 : w.cell? a0 = some v0) (h1 : w.cell? a1 = some v1) (h2 : w.cell? a2 = some v2) : w'.cell? a0 = some v0 ∧ w'.cell? a1 = some v1 ∧ w'.cell? a2 = some v2:=⟨cell_below hb h0,cell_below hb h1,cell_below hb h2⟩
theorem cb4 {w w' : World} (hb : Below w.heap.size w w') {a0 a1 a2 a3 : Addr} {v0 v1 v2 v3 : Value} (h0 : w.cell? a0 = some v0) (h1 : w.cell? a1 = some v1) (h2 : w.cell? a2 = some v2) (h3 : w.cell? a3 = some v3) : w'.cell? a0 = some v0 ∧ w'.cell? a1 = some v1 ∧ w'.cell? a2 = some v2 ∧ w'.cell? a3 = some v3:=⟨cell_below hb h0,cell_below hb h1,cell_below hb h2,cell_below hb h3⟩
theorem cb5 {w w' : World} (hb : Below w.heap.size w w') {a0 a1 a2 a3 a4 : Addr} {v0 v1 v2 v3 v4 : Value} (h0 : w.cell? a0 = some v0) (h1 : w.cell? a1 = some v1) (h2 : w.cell? a2 = some v2) (h3 : w.cell? a3 = some v3) (h4 : w.cell? a4 = some v4) : w'.cell? a0 = some v0 ∧ w'.cell? a1 = some v1 ∧ w'.cell? a2 = some v2 ∧ w'.cell? a3 = some v3 ∧ w'.cell? a4 = some v4:=⟨cell_below hb h0,cell_below hb h1,cell_below hb h2,cell_below hb h3,cell_below hb h4⟩
theorem cb6 {w w' : World} (hb : Below w.heap.size w w') {a0 a1 a2 a3 a4 a5 : Addr} {v0 v1 v2 v3 v4 v5 : Value} (h0 : w.cell? a0 = some v0) (h1 : w.cell? a1 = some v1) (h2 : w.cell? a2 = some v2) (h3 : w.cell? a3 = some v3) (h4 : w.cell? a4 = some v4) (h5 : w.cell? a5 = some v5) : w'.cell? a0 = some v0 ∧ w'.cell? a1 = some v1 ∧ w'.cell? a2 = some v2 ∧ w'.cell? a3 = some v3 ∧ w'.cell? a4 = some v4 ∧ w'.cell? a5 = some v5:=⟨cell_below hb h0,cell_below hb h1,cell_below hb h2,cell_below hb h3,cell_below hb h4,cell_below hb h5⟩
theorem cb7 {w w' : World} (hb : Below w.heap.size w w') {a0 a1 a2 a3 a4 a5 a6 : Addr} {v0 v1 v2 v3 v4 v5 v6 : Value} (h0 : w.cell? a0 = some v0) (h1 : w.cell? a1 = some v1) (h2 : w.cell? a2 = some v2) (h3 : w.cell? a3 = some v3) (h4 : w.cell? a4 = some v4) (h5 : w.cell? a5 = some v5) (h6 : w.cell? a6 = some v6) : w'.cell? a0 = some v0 ∧ w'.cell? a1 = some v1 ∧ w'.cell? a2 = some v2 ∧ w'.cell? a3 = some v3 ∧ w'.cell? a4 = some v4 ∧ w'.cell? a5 = some v5 ∧ w'.cell? a6 = some v6:=⟨cell_below hb h0,cell_below hb h1,cell_below hb h2,cell_below hb h3,cell_below hb h4,cell_below hb h5,cell_below hb h6⟩
theorem cb8 {w w' : World} (hb : Below w.heap.size w w') {a0 a1 a2 a3 a4 a5 a6 a7 : Addr} {v0 v1 v2 v3 v4 v5 v6 v7 : Value} (h0 : w.cell? a0 = some v0) (h1 : w.cell? a1 = some v1) (h2 : w.cell? a2 = some v2) (h3 : w.cell? a3 = some v3) (h4 : w.cell? a4 = some v4) (h5 : w.cell? a5 = some v5) (h6 : w.cell? a6 = some v6) (h7 : w.cell? a7 = some v7) : w'.cell? a0 = some v0 ∧ w'.cell? a1 = some v1 ∧ w'.cell? a2 = some v2 ∧ w'.cell? a3 = some v3 ∧ w'.cell? a4 = some v4 ∧ w'.cell? a5 = some v5 ∧ w'.cell? a6 = some v6 ∧ w'.cell? a7 = some v7:=⟨cell_below hb h0,cell_below hb h1,cell_below hb h2,cell_below hb h3,cell_below hb h4,cell_below hb h5,cell_below hb h6,cell_below hb h7⟩
theorem cb9 {w w' : World} (hb : Below w.heap.size w w') {a0 a1 a2 a3 a4 a5 a6 a7 a8 : Addr} {v0 v1 v2 v3 v4 v5 v6 v7 v8 : Value} (h0 : w.cell? a0 = some v0) (h1 : w.cell? a1 = some v1) (h2 : w.cell? a2 = some v2) (h3 : w.cell? a3 = some v3) (h4 : w.cell? a4 = some v4) (h5 : w.cell? a5 = some v5) (h6 : w.cell? a6 = some v6) (h7 : w.cell? a7 = some v7) (h8 : w.cell? a8 = some v8) : w'.cell? a0 = some v0 ∧ w'.cell? a1 = some v1 ∧ w'.cell? a2 = some v2 ∧ w'.cell? a3 = some v3 ∧ w'.cell? a4 = some v4 ∧ w'.cell? a5 = some v5 ∧ w'.cell? a6 = some v6 ∧ w'.cell? a7 = some v7 ∧ w'.cell? a8 = some v8:=⟨cell_below hb h0,cell_below hb h1,cell_below hb h2,cell_below hb h3,cell_below hb h4,cell_below hb h5,cell_below hb h6,cell_below hb h7,cell_below hb h8⟩
theorem cb10 {w w' : World} (hb : Below w.heap.size w w') {a0 a1 a2 a3 a4 a5 a6 a7 a8 a9 : Addr} {v0 v1 v2 v3 v4 v5 v6 v7 v8 v9 : Value} (h0 : w.cell? a0 = some v0) (h1 : w.cell? a1 = some v1) (h2 : w.cell? a2 = some v2) (h3 : w.cell? a3 = some v3) (h4 : w.cell? a4 = some v4) (h5 : w.cell? a5 = some v5) (h6 : w.cell? a6 = some v6) (h7 : w.cell? a7 = some v7) (h8 : w.cell? a8 = some v8) (h9 : w.cell? a9 = some v9) : w'.cell? a0 = some v0 ∧ w'.cell? a1 = some v1 ∧ w'.cell? a2 = some v2 ∧ w'.cell? a3 = some v3 ∧ w'.cell? a4 = some v4 ∧ w'.cell? a5 = some v5 ∧ w'.cell? a6 = some v6 ∧ w'.cell? a7 = some v7 ∧ w'.cell? a8 = some v8 ∧ w'.cell? a9 = some v9:=⟨cell_below hb h0,cell_below hb h1,cell_below hb h2,cell_below hb h3,cell_below hb h4,cell_below hb h5,cell_below hb h6,cell_below hb h7,cell_below hb h8,cell_below hb h9⟩
theorem cb11 {w w' : World} (hb : Below w.heap.size w w') {a0 a1 a2 a3 a4 a5 a6 a7 a8 a9 a10 : Addr} {v0 v1 v2 v3 v4 v5 v6 v7 v8 v9 v10 : Value} (h0 : w.cell? a0 = some v0) (h1 : w.cell? a1 = some v1) (h2 : w.cell? a2 = some v2) (h3 : w.cell? a3 = some v3) (h4 : w.cell? a4 = some v4) (h5 : w.cell? a5 = some v5) (h6 : w.cell? a6 = some v6) (h7 : w.cell? a7 = some v7) (h8 : w.cell? a8 = some v8) (h9 : w.cell? a9 = some v9) (h10 : w.cell? a10 = some v10) : w'.cell? a0 = some v0 ∧ w'.cell? a1 = some v1 ∧ w'.cell? a2 = some v2 ∧ w'.cell? a3 = some v3 ∧ w'.cell? a4 = some v4 ∧ w'.cell? a5 = some v5 ∧ w'.cell? a6 = some v6 ∧ w'.cell? a7 = some v7 ∧ w'.cell? a8 = some v8 ∧ w'.cell? a9 = some v9 ∧ w'.cell? a10 = some v10:=⟨cell_below hb h0,cell_below hb h1,cell_below hb h2,cell_below hb h3,cell_below hb h4,cell_below hb h5,cell_below hb h6,cell_below hb h7,cell_below hb h8,cell_below hb h9,cell_below hb h10⟩
theorem cb12 {w w' : World} (hb : Below w.heap.size w w') {a0 a1 a2 a3 a4 a5 a6 a7 a8 a9 a10 a11 : Addr} {v0 v1 v2 v3 v4 v5 v6 v7 v8 v9 v10 v11 : Value} (h0 : w.cell? a0 = some v0) (h1 : w.cell? a1 = some v1) (h2 : w.cell? a2 = some v2) (h3 : w.cell? a3 = some v3) (h4 : w.cell? a4 = some v4) (h5 : w.cell? a5 = some v5) (h6 : w.cell? a6 = some v6) (h7 : w.cell? a7 = some v7) (h8 : w.cell? a8 = some v8) (h9 : w.cell? a9 = some v9) (h10 : w.cell? a10 = some v10) (h11 : w.cell? a11 = some v11) : w'.cell? a0 = some v0 ∧ w'.cell? a1 = some v1 ∧ w'.cell? a2 = some v2 ∧ w'.cell? a3 = some v3 ∧ w'.cell? a4 = some v4 ∧ w'.cell? a5 = some v5 ∧ w'.cell? a6 = some v6 ∧ w'.cell? a7 = some v7 ∧ w'.cell? a8 = some v8 ∧ w'.cell? a9 = some v9 ∧ w'.cell? a10 = some v10 ∧ w'.cell? a11 = some v11:=⟨cell_below hb h0,cell_below hb h1,cell_below hb h2,cell_below hb h3,cell_below hb h4,cell_below hb h5,cell_below hb h6,cell_below hb h7,cell_below hb h8,cell_below hb h9,cell_below hb h10,cell_below hb h11⟩
theorem cb13 {w w' : World} (hb : Below w.heap.size w w') {a0 a1 a2 a3 a4 a5 a6 a7 a8 a9 a10 a11 a12 : Addr} {v0 v1 v2 v3 v4 v5 v6 v7 v8 v9 v10 v11 v12 : Value} (h0 : w.cell? a0 = some v0) (h1 : w.cell? a1 = some v1) (h2 : w.cell? a2 = some v2) (h3 : w.cell? a3 = some v3) (h4 : w.cell? a4 = some v4) (h5 : w.cell? a5 = some v5) (h6 : w.cell? a6 = some v6) (h7 : w.cell? a7 = some v7) (h8 : w.cell? a8 = some v8) (h9 : w.cell? a9 = some v9) (h10 : w.cell? a10 = some v10) (h11 : w.cell? a11 = some v11) (h12 : w.cell? a12 = some v12) : w'.cell? a0 = some v0 ∧ w'.cell? a1 = some v1 ∧ w'.cell? a2 = some v2 ∧ w'.cell? a3 = some v3 ∧ w'.cell? a4 = some v4 ∧ w'.cell? a5 = some v5 ∧ w'.cell? a6 = some v6 ∧ w'.cell? a7 = some v7 ∧ w'.cell? a8 = some v8 ∧ w'.cell? a9 = some v9 ∧ w'.cell? a10 = some v10 ∧ w'.cell? a11 = some v11 ∧ w'.cell? a12 = some v12:=⟨cell_below hb h0,cell_below hb h1,cell_below hb h2,cell_below hb h3,cell_below hb h4,cell_below hb h5,cell_below hb h6,cell_below hb h7,cell_below hb h8,cell_below hb h9,cell_below hb h10,cell_below hb h11,cell_below hb h12⟩
theorem below_alloc {B : Nat} {a w : World} (h : Below B a w) (hB : B ≤ a.heap.size) (o : Obj) : Below B a (w.alloc o):=h.alloc (Nat.le_trans hB h.size) o
theorem below_alloc0 (w : World) (o : Obj) : Below w.heap.size w (w.alloc o):=(Below.refl _ _).alloc (Nat.le_refl _) o
theorem quiet_left {P : Program} {f : FuncId} {args : Array Value} {w : World} {n : Nat} {v : Value}
  (h : Calls P f args (w.drewN n) fun e w'=>e = .returned v ∧ w.drewN n = w') : Calls P f args (w.drewN n) fun e w''=>e = .returned v ∧ ∃ m,w'' = w.drewN m :=
 h.mono fun _ _ ⟨he,hm⟩=>⟨he,n,hm.symm⟩
theorem quiet_more {P : Program} {f : FuncId} {args : Array Value} {w : World} {n : Nat} {v : Value}
  (h : Calls P f args (w.drewN n) fun e w'=>e = .returned v ∧ ∃ m,w' = (w.drewN n).drewN m) : Calls P f args (w.drewN n) fun e w''=>e = .returned v ∧ ∃ m,w'' = w.drewN m :=
 h.mono fun _ _ ⟨he,m,hm⟩=>⟨he,n + m,by rw [hm,World.drewN_drewN]⟩
def Drew (w w' : World) : Prop:=∃ n,w' = w.drewN n
theorem Drew.refl (w : World) : Drew w w:=⟨0,rfl⟩
theorem Drew.more {w w' : World} (h : Drew w w') (n : Nat) : Drew w (w'.drewN n):=by
 obtain ⟨m,rfl⟩:=h;exact ⟨m + n,World.drewN_drewN ..⟩
theorem Drew.trans {w w' w'' : World} (h : Drew w w') (k : Drew w' w'') : Drew w w'':=by
 obtain ⟨n,rfl⟩:=k;exact h.more n
theorem Drew.below {w w' : World} (h : Drew w w') (B : Nat) : Below B w w':=by
 obtain ⟨n,rfl⟩:=h;exact below_drewN (Below.refl _ _) n
theorem Drew.rd {w w' : World} (h : Drew w w') {B : Nat} {A : Option Addr} {xs : List Value} (hr : Rd w B A xs) : Rd w' B A xs:=by
 obtain ⟨n,rfl⟩:=h;exact hr
theorem Drew.size {w w' : World} (h : Drew w w') : w'.heap.size = w.heap.size:=by
 obtain ⟨n,rfl⟩:=h;rfl
def NewRow (w : World) (t : TypeId) (size n : Nat) (xs : List Value) (e : Ending) (w' : World) : Prop :=
 ∃ A c,e = .returned (.slice A n c) ∧ w'.ownsRow w.heap.size t size (.slice A n c) n xs ∧ Below w.heap.size w w'
theorem info_int : (Try.prog.info? 3).map (fun i=>(i.zero,i.size,i.bytes)) = some (some (.int .i64 0),1,8):=by kernel_rfl
theorem info_bool : (Try.prog.info? 4).map (fun i=>(i.zero,i.size,i.bytes)) = some (some (.bool false),1,1):=by kernel_rfl
section
variable (w : World) {ops : Array Oper} {rest : List Oper} {o : Oper} {a : Act} {Q : Exit → Act → World → Prop}
theorem replicate_iv (n : Nat) : (madeCells (Value.int .i64 0).cells (n * 1)).toList = (List.replicate n (0 : Int)).map iv:=by
 show (madeCells #[Value.int .i64 0] (n * 1)).toList = _
 rw [toList_madeCells_one,Nat.mul_one,List.map_replicate];rfl
theorem make_ints (hg : o.guard = none) (l c : Operand) (hop : o.op = Op.makeSlice 35 l c) (n : Nat) (hl : a.eval l = .int .i64 (n : Int)) (hc : a.eval c = .int .i64 (n : Int)) (hn : n ≤ 1099511627776)
  (hK : ∀ w',w'.ownsRow w.heap.size 3 1 (.slice (some ⟨w.heap.size,0,none⟩) n n) n ((List.replicate n (0 : Int)).map iv) → Below w.heap.size w w' →
   wpList Try.prog ops Q rest (a.put o.dst (.slice (some ⟨w.heap.size,0,none⟩) n n)) w') : wpList Try.prog ops Q (o :: rest) a w:=by
 obtain ⟨i0,hi,hz0,hz1,hz2⟩:=info_parts info_int;refine wpList_make_full w hg l c _ hop w.heap.size _ i0 _ 1 Try.underlying35 hi hz0 hz1 _ _ _ _ n hl hc rfl rfl (by rw [hz2];omega) (by unfold maxLen;omega) (Nat.le_refl _) ?_;intro w' h1 h2;rw [replicate_iv] at h1;exact hK w' h1 ((Below.refl _ _).grown h2 (Nat.le_refl _) (by simp))
theorem append_cells {t e : TypeId} {z : Value} {size bytes : Nat} (ht : Try.prog.underlying t = some (.slice e)) (hinfo : (Try.prog.info? e).map (fun i => (i.zero, i.size, i.bytes)) = some (some z, size, bytes))
  (hzs : z.cells.size = size) (hsz : 0 < size) (hby : bytes ≤ 128) {wr : World} (hgd : o.guard = none) (s x : Operand)
  (ho : o.op = .call { callee:=.builtin .append,args:=#[s,x],argTypes:=#[t,t] })
  {base : Nat} {v : Value} {n : Nat} {xs : List Value} (us : List Value) (hown : wr.ownsRow base e size v n xs) (hs : a.eval s = v) (hx : a.eval x = .slice (some ⟨wr.heap.size,0,none⟩) 1 1)
  (hus : us.length = size) (h1 : ∀ u ∈ us,u.oneCell' = true) (hn : n ≤ 1099511627775) (hbase : base ≤ wr.heap.size)
  (hK : ∀ A c w',w'.ownsRow base e size (.slice A (n + 1) c) (n + 1) (xs ++ us) → wr.grownBy w' v.ownBlock → ((Value.slice A (n + 1) c).ownBlock = v.ownBlock ∨ (Value.slice A (n + 1) c).ownBlock = some (wr.heap.size + 1)) →
   wpList Try.prog ops Q rest (a.put o.dst (.slice A (n + 1) c)) w') : wpList Try.prog ops Q (o :: rest) a (wr.alloc (.cells us.toArray e)):=by
 obtain ⟨i0,hi,hz0,hz1,hz2⟩:=info_parts hinfo;refine wpList_plain hgd fun K hK'=>?_;have hcells : ∀ j u,us[j]? = some u → (wr.alloc (.cells us.toArray e)).cell? ((⟨wr.heap.size,0,none⟩ : Addr).add j) = some u:=by
  intro j u hu;rw [add_mk,cell_of_row _ _ _ _ _ _ (heap_alloc_new wr _)];simpa using hu
 obtain ⟨v',w',hr,h2,h3,_,h4⟩:=run_append_own_at (P:=Try.prog) (wr.alloc (.cells us.toArray e)) base t o.type e i0 z size bytes ht hi hz0 hz1 hz2 hzs hsz v n xs (hown.alloc _) ⟨wr.heap.size,0,none⟩ 1 1 us
  (by omega) hcells h1 (by unfold maxLen;omega) (Nat.le_trans (Nat.mul_le_mul_left _ hby) (by omega)) (by simp;omega)
 obtain ⟨A,c,rfl⟩:=own_form h2;have hgr : wr.grownBy w' v.ownBlock:=(World.grownBy_alloc wr _ _).trans h3;unfold Oper.wp execOp;simp only [ho,resolve,invoke,builtin,Sem.run_bind,Sem.run_pure,Result.andThen_ok,List.map_toArray,List.map_cons,List.map_nil,hs,hx,hr];exact hK' _ _ (hK A c w' h2 hgr (by simpa using h4))
theorem append_int {wr : World} (hgd : o.guard = none) (s x : Operand) (ho : o.op = .call { callee := .builtin .append, args := #[s, x], argTypes := #[35, 35] })
  {base : Nat} {v : Value} {n : Nat} {xs : List Int} {z : Int} (hown : wr.ownsRow base 3 1 v n (xs.map iv)) (hs : a.eval s = v) (hx : a.eval x = .slice (some ⟨wr.heap.size,0,none⟩) 1 1)
  (hn : n ≤ 1099511627775) (hbase : base ≤ wr.heap.size)
  (hK : ∀ A c w',w'.ownsRow base 3 1 (.slice A (n + 1) c) (n + 1) ((xs ++ [z]).map iv) → wr.grownBy w' v.ownBlock → ((Value.slice A (n + 1) c).ownBlock = v.ownBlock ∨ (Value.slice A (n + 1) c).ownBlock = some (wr.heap.size + 1)) →
   wpList Try.prog ops Q rest (a.put o.dst (.slice A (n + 1) c)) w') : wpList Try.prog ops Q (o :: rest) a (wr.alloc (.cells #[.int .i64 z] 3)) :=
 append_cells Try.underlying35 info_int rfl (by omega) (by omega) hgd s x ho [.int .i64 z] hown hs hx rfl (by simp [Value.oneCell']) hn hbase
  fun A c w' h1 h2 h3=>hK A c w' (by simpa [iv] using h1) h2 h3
end
theorem below_append {B : Nat} {a wr w' : World} {base : Nat} {e : TypeId} {size n : Nat} {v : Value} {xs : List Value} (h : Below B a wr) (hown : wr.ownsRow base e size v n xs) (hg : wr.grownBy w' v.ownBlock) (hB : B ≤ wr.heap.size) (hb : B ≤ base) : Below B a w' :=
 h.grown hg hB fun k hk=>Nat.le_trans hb (hown.lt k hk).1
end Go.Proofs.Ytkgoajnnkimkaaa
namespace Go.Proofs.Ytkgoajnnkimkaaa
open Go.ChangeShapes Go.WideShapes Go.ChangeAt Go.RowKit
def Row (w : World) (B : Nat) (A : Option Addr) (off : Nat) (xs : List Value) : Prop :=
 ∀ j u,xs[j]? = some u → ∃ ad,A = some ad ∧ ad.block < B ∧ w.cell? (ad.add (off + j)) = some u
section
variable {w w' : World} {B B' : Nat} {A : Option Addr} {off : Nat} {xs : List Value}
theorem Row.keep (h : Row w B A off xs) (hk : ∀ p : Addr,p.block < B → w'.cell? p = w.cell? p) : Row w' B A off xs:=fun j u hu=>by
 obtain ⟨ad,e,hb,hc⟩:=h j u hu;exact ⟨ad,e,hb,(hk _ (by rw [block_of_add];exact hb)).trans hc⟩
theorem Row.mono (h : Row w B A off xs) (hB : B ≤ B') : Row w B' A off xs:=fun j u hu=>by
 obtain ⟨ad,e,hb,hc⟩:=h j u hu;exact ⟨ad,e,by omega,hc⟩
theorem Row.full (h : Row w B A off xs) : Row w w.heap.size A off xs:=fun j u hu=>by
 obtain ⟨ad,e,hb,hc⟩:=h j u hu;have:=World.block_lt_of_cell? w _ hc;rw [block_of_add] at this;exact ⟨ad,e,this,hc⟩
end
inductive TmAt (w : World) (B : Nat) : Tm → List Value → Prop
 | mk (k n : Int) (s : ByteArray) (ks : List Tm) (A : Option Addr) (c : Nat) (cs : Nat → List Value) :
  (∀ i,i < ks.length → Row w B A (i * 4) (cs i)) → (∀ i (h : i < ks.length),TmAt w B ks[i] (cs i)) →
  TmAt w B (.mk k n s ks) [.int .i64 k,.int .i64 n,.string s,.slice A ks.length c]
def KidsAt (w : World) (B : Nat) (A : Option Addr) (ks : List Tm) : Prop :=
 ∃ cs : Nat → List Value,(∀ i,i < ks.length → Row w B A (i * 4) (cs i)) ∧ ∀ i (h : i < ks.length),TmAt w B ks[i] (cs i)
def InsAt (w : World) (B : Nat) (A : Option Addr) (ins : List Is) : Prop :=
 ∃ cs : Nat → List Value,∀ i (h : i < ins.length),Row w B A (i * 7) (.int .i64 ins[i].op :: .int .i64 ins[i].arg :: (cs i ++ [.int .i64 ins[i].to])) ∧ TmAt w B ins[i].term (cs i)
structure CV where
 gA : Option Addr
 lA : Option Addr
 pA : Option Addr
 eA : Option Addr
 iA : Option Addr
 gc : Nat
 lc : Nat
 pc : Nat
 ec : Nat
 ic : Nat
structure CodeAt (w : World) (B : Nat) (v : CV) (k : Cd) : Prop where
 gl : k.globals.length ≤ v.gc
 ll : k.locks.length ≤ v.lc
 pl : k.procs.length ≤ v.pc
 el : k.entry.length ≤ v.ec
 il : k.ins.length ≤ v.ic
 g : Rd w B v.gA (k.globals.map sv)
 l : Rd w B v.lA (k.locks.map sv)
 p : Rd w B v.pA (k.procs.map sv)
 e : Rd w B v.eA (k.entry.map iv)
 i : InsAt w B v.iA k.ins
section
variable {w w' : World} {B B' : Nat} {A : Option Addr} {t : Tm} {cs : List Value} {ks : List Tm} {ins : List Is} {v : CV} {k : Cd}
theorem TmAt.keep (h : TmAt w B t cs) (hk : ∀ p : Addr,p.block < B → w'.cell? p = w.cell? p) : TmAt w' B t cs:=by
 induction h with
 | mk k n s ks A c cs h1 h2 ih=>exact .mk k n s ks A c cs (fun i hi=>(h1 i hi).keep hk) ih
theorem TmAt.mono (h : TmAt w B t cs) (hB : B ≤ B') : TmAt w B' t cs:=by
 induction h with
 | mk k n s ks A c cs h1 h2 ih=>exact .mk k n s ks A c cs (fun i hi=>(h1 i hi).mono hB) ih
theorem TmAt.full (h : TmAt w B t cs) : TmAt w w.heap.size t cs:=by
 induction h with
 | mk k n s ks A c cs h1 h2 ih=>exact .mk k n s ks A c cs (fun i hi=>(h1 i hi).full) ih
theorem TmAt.to (h : TmAt w B t cs) (hb : Below B w w') : TmAt w' B t cs:=h.keep fun _ hp=>hb.cell hp
theorem TmAt.parts (h : TmAt w B t cs) : ∃ A c,cs = [.int .i64 t.kind,.int .i64 t.num,.string t.name,.slice A t.kids.length c] ∧ KidsAt w B A t.kids:=by
 cases h with
 | mk k n s ks A c cs h1 h2=>exact ⟨A,c,rfl,cs,h1,h2⟩
theorem TmAt.make {c : Nat} (h : KidsAt w B A t.kids) : TmAt w B t [.int .i64 t.kind,.int .i64 t.num,.string t.name,.slice A t.kids.length c]:=by
 obtain ⟨cs,h1,h2⟩:=h;cases t with
 | mk k n s ks=>exact .mk k n s ks A c cs h1 h2
theorem KidsAt.keep (h : KidsAt w B A ks) (hk : ∀ p : Addr,p.block < B → w'.cell? p = w.cell? p) : KidsAt w' B A ks:=by
 obtain ⟨cs,h1,h2⟩:=h;exact ⟨cs,fun i hi=>(h1 i hi).keep hk,fun i hi=>(h2 i hi).keep hk⟩
theorem KidsAt.mono (h : KidsAt w B A ks) (hB : B ≤ B') : KidsAt w B' A ks:=by
 obtain ⟨cs,h1,h2⟩:=h;exact ⟨cs,fun i hi=>(h1 i hi).mono hB,fun i hi=>(h2 i hi).mono hB⟩
theorem KidsAt.full (h : KidsAt w B A ks) : KidsAt w w.heap.size A ks:=by
 obtain ⟨cs,h1,h2⟩:=h;exact ⟨cs,fun i hi=>(h1 i hi).full,fun i hi=>(h2 i hi).full⟩
theorem KidsAt.below (h : KidsAt w B A ks) (hb : Below B w w') : KidsAt w' B A ks:=h.keep fun _ hp=>hb.cell hp
theorem InsAt.keep (h : InsAt w B A ins) (hk : ∀ p : Addr,p.block < B → w'.cell? p = w.cell? p) : InsAt w' B A ins:=by
 obtain ⟨cs,h1⟩:=h;exact ⟨cs,fun i hi=>⟨(h1 i hi).1.keep hk,(h1 i hi).2.keep hk⟩⟩
theorem InsAt.mono (h : InsAt w B A ins) (hB : B ≤ B') : InsAt w B' A ins:=by
 obtain ⟨cs,h1⟩:=h;exact ⟨cs,fun i hi=>⟨(h1 i hi).1.mono hB,(h1 i hi).2.mono hB⟩⟩
theorem InsAt.full (h : InsAt w B A ins) : InsAt w w.heap.size A ins:=by
 obtain ⟨cs,h1⟩:=h;exact ⟨cs,fun i hi=>⟨(h1 i hi).1.full,(h1 i hi).2.full⟩⟩
theorem InsAt.below (h : InsAt w B A ins) (hb : Below B w w') : InsAt w' B A ins:=h.keep fun _ hp=>hb.cell hp
theorem CodeAt.mono (h : CodeAt w B v k) (hB : B ≤ B') : CodeAt w B' v k:=⟨h.gl,h.ll,h.pl,h.el,h.il,h.g.mono hB,h.l.mono hB,h.p.mono hB,h.e.mono hB,h.i.mono hB⟩
theorem CodeAt.full (h : CodeAt w B v k) : CodeAt w w.heap.size v k:=⟨h.gl,h.ll,h.pl,h.el,h.il,h.g.full,h.l.full,h.p.full,h.e.full,h.i.full⟩
theorem CodeAt.below (h : CodeAt w B v k) (hb : Below B w w') : CodeAt w' B v k:=⟨h.gl,h.ll,h.pl,h.el,h.il,h.g.below hb,h.l.below hb,h.p.below hb,h.e.below hb,h.i.below hb⟩
end
theorem add_pos_eq (a : Addr) (m j : Nat) (hj : 0 < j) : a.add (m + j) = ⟨(a.add m).block,(a.add m).off + j,none⟩:=by
 rw [← add_of_add];generalize a.add m = x;unfold Addr.add;rw [if_neg (by omega)]
section
variable {w : World} {B : Nat} {A : Option Addr} {ks : List Tm} {ins : List Is}
theorem KidsAt.get (h : KidsAt w B A ks) {i : Nat} (hi : i < ks.length) : ∃ ad A' c', A = some ad ∧ (ad.add (i * 4)).block < B ∧
  w.cell? (ad.add (i * 4)) = some (.int .i64 ks[i].kind) ∧ w.cell? ⟨(ad.add (i * 4)).block,(ad.add (i * 4)).off + 1,none⟩ = some (.int .i64 ks[i].num) ∧
  w.cell? ⟨(ad.add (i * 4)).block,(ad.add (i * 4)).off + 2,none⟩ = some (.string ks[i].name) ∧ w.cell? ⟨(ad.add (i * 4)).block,(ad.add (i * 4)).off + 3,none⟩ = some (.slice A' ks[i].kids.length c') ∧
  KidsAt w B A' ks[i].kids:=by
 obtain ⟨cs,h1,h2⟩:=h;obtain ⟨A',c',e,hk⟩:=(h2 i hi).parts;have hr:=h1 i hi;rw [e] at hr;obtain ⟨ad,rfl,hb,c0⟩:=hr 0 _ rfl;refine ⟨ad,A',c',rfl,by rw [block_of_add];exact hb,c0,?_,?_,?_,hk⟩
 ·
  obtain ⟨ad',e',_,c1⟩:=hr 1 _ rfl;cases e'
  rwa [add_pos_eq _ _ 1 (by omega)] at c1
 ·
  obtain ⟨ad',e',_,c1⟩:=hr 2 _ rfl;cases e'
  rwa [add_pos_eq _ _ 2 (by omega)] at c1
 ·
  obtain ⟨ad',e',_,c1⟩:=hr 3 _ rfl;cases e'
  rwa [add_pos_eq _ _ 3 (by omega)] at c1
theorem InsAt.get (h : InsAt w B A ins) {i : Nat} (hi : i < ins.length) : ∃ ad A' c', A = some ad ∧ (ad.add (i * 7)).block < B ∧
  w.cell? (ad.add (i * 7)) = some (.int .i64 ins[i].op) ∧ w.cell? ⟨(ad.add (i * 7)).block,(ad.add (i * 7)).off + 1,none⟩ = some (.int .i64 ins[i].arg) ∧
  w.cell? ⟨(ad.add (i * 7)).block,(ad.add (i * 7)).off + 2,none⟩ = some (.int .i64 ins[i].term.kind) ∧ w.cell? ⟨(ad.add (i * 7)).block,(ad.add (i * 7)).off + 3,none⟩ = some (.int .i64 ins[i].term.num) ∧
  w.cell? ⟨(ad.add (i * 7)).block,(ad.add (i * 7)).off + 4,none⟩ = some (.string ins[i].term.name) ∧ w.cell? ⟨(ad.add (i * 7)).block,(ad.add (i * 7)).off + 5,none⟩ = some (.slice A' ins[i].term.kids.length c') ∧
  w.cell? ⟨(ad.add (i * 7)).block,(ad.add (i * 7)).off + 6,none⟩ = some (.int .i64 ins[i].to) ∧ KidsAt w B A' ins[i].term.kids:=by
 obtain ⟨cs,h1⟩:=h;obtain ⟨hr,ht⟩:=h1 i hi;obtain ⟨A',c',e,hk⟩:=ht.parts;rw [e] at hr;obtain ⟨ad,rfl,hb,c0⟩:=hr 0 _ rfl
 have get : ∀ j u, 0 < j → ([.int .i64 ins[i].op, .int .i64 ins[i].arg, .int .i64 ins[i].term.kind, .int .i64 ins[i].term.num, .string ins[i].term.name, .slice A' ins[i].term.kids.length c', .int .i64 ins[i].to] : List Value)[j]? = some u →
   w.cell? ⟨(ad.add (i * 7)).block,(ad.add (i * 7)).off + j,none⟩ = some u:=by
  intro j u hj hu;obtain ⟨ad',e',_,c1⟩:=hr j u hu;cases e'
  rwa [add_pos_eq _ _ j hj] at c1
 exact ⟨ad,A',c',rfl,by rw [block_of_add];exact hb,c0,get 1 _ (by omega) rfl,get 2 _ (by omega) rfl,get 3 _ (by omega) rfl,get 4 _ (by omega) rfl,get 5 _ (by omega) rfl,get 6 _ (by omega) rfl,hk⟩
end
end Go.Proofs.Ytkgoajnnkimkaaa
namespace Go.Proofs.Ytkgoajnnkimkaaa
open Go.ChangeShapes Go.WideShapes Go.ChangeAt Go.RowKit
def High (w : World) (lo : Nat) : World :=
 { w with heap:=w.heap.mapIdx fun b o=>if b < lo then .cells #[] 0 (0,0) else match o with | .cells c t (0,0)=>.cells c t (0,0) | _=>.cells #[] 0 (0,0) }
theorem high_size (w : World) (lo : Nat) : (High w lo).heap.size = w.heap.size:=by simp [High]
theorem high_some {w : World} {lo : Nat} {a : Addr} {v : Value} : (High w lo).cell? a = some v ↔ lo ≤ a.block ∧ w.cell? a = some v ∧ ∃ c t,w.heap[a.block]? = some (.cells c t (0,0)):=by
 unfold World.cell? High;simp only [Array.getElem?_mapIdx];cases h : w.heap[a.block]? with
 | none=>simp
 | some o =>
  by_cases hb : a.block < lo
  ·
   simp only [Option.map_some,hb,if_true];constructor
   · intro h1;split at h1 <;> simp at h1
   · intro h1;omega
  ·
   simp only [Option.map_some,hb,if_false];have hl : lo ≤ a.block:=by omega
   cases o with
   | cells c t fz =>
    obtain ⟨f1,f2⟩:=fz;by_cases hz : (f1,f2) = (0,0)
    ·
     cases hz
     simp [hl]
    ·
     have hz' : ¬ (f1 = 0 ∧ f2 = 0):=fun h=>hz (by rw [h.1,h.2]);constructor
     ·
      intro h1;split at h1
      ·
       rename_i c' t' fz' hh;split at hh
       · rename_i c2 t2 hh2;simp at hh2;exact absurd hh2.2.2 hz'
       · simp at hh;obtain ⟨rfl,_⟩:=hh;split at h1 <;> simp at h1
      · simp at h1
     · rintro ⟨_,_,c2,t2,hh⟩;simp at hh;exact absurd hh.2.2 hz'
   | _ => 
    constructor
    · intro h1;simp at h1
    · rintro ⟨_,_,c2,t2,hh⟩;simp at hh
theorem high_cell {w : World} {lo : Nat} {a : Addr} {v : Value} (h : (High w lo).cell? a = some v) : w.cell? a = some v:=(high_some.1 h).2.1
theorem high_le {w : World} {lo : Nat} {a : Addr} {v : Value} (h : (High w lo).cell? a = some v) : lo ≤ a.block:=(high_some.1 h).1
theorem high_free {w : World} {lo : Nat} {a : Addr} {v : Value} (h : (High w lo).cell? a = some v) (j : Nat) : w.frozen? ⟨a.block,j,none⟩ = false:=by
 obtain ⟨c,t,e⟩:=(high_some.1 h).2.2;simp [World.frozen?,e]
theorem high_keep {w w' : World} {lo lo' : Nat} (hl : lo' ≤ lo) (hk : ∀ b,lo ≤ b → b < w.heap.size → w'.heap[b]? = w.heap[b]?) {a : Addr} {v : Value} (h : (High w lo).cell? a = some v) : (High w' lo').cell? a = some v:=by
 obtain ⟨h1,h2,c,t,h3⟩:=high_some.1 h;have e:=hk a.block h1 (Array.getElem?_eq_some_iff.1 h3).1;refine high_some.2 ⟨by omega,?_,c,t,e.trans h3⟩;rw [← h2];exact World.cell?_of_block (w:=w) e
section
variable {w w' : World} {B B' : Nat} {A : Option Addr} {t : Tm} {cs : List Value} {ks : List Tm} {ins : List Is} {v : CV} {k : Cd} {off : Nat} {xs : List Value}
theorem Rd.sub (h : Rd w B A xs) (hB : B ≤ B') (hk : ∀ p u,w.cell? p = some u → w'.cell? p = some u) : Rd w' B' A xs:=fun j u hu=>by
 obtain ⟨ad,e,hb,hc⟩:=h j u hu;exact ⟨ad,e,by omega,hk _ _ hc⟩
theorem Row.sub (h : Row w B A off xs) (hB : B ≤ B') (hk : ∀ p u,w.cell? p = some u → w'.cell? p = some u) : Row w' B' A off xs:=fun j u hu=>by
 obtain ⟨ad,e,hb,hc⟩:=h j u hu;exact ⟨ad,e,by omega,hk _ _ hc⟩
theorem TmAt.sub (h : TmAt w B t cs) (hB : B ≤ B') (hk : ∀ p u,w.cell? p = some u → w'.cell? p = some u) : TmAt w' B' t cs:=by
 induction h with
 | mk k n s ks A c cs h1 h2 ih=>exact .mk k n s ks A c cs (fun i hi=>(h1 i hi).sub hB hk) ih
theorem KidsAt.sub (h : KidsAt w B A ks) (hB : B ≤ B') (hk : ∀ p u,w.cell? p = some u → w'.cell? p = some u) : KidsAt w' B' A ks:=by
 obtain ⟨cs,h1,h2⟩:=h;exact ⟨cs,fun i hi=>(h1 i hi).sub hB hk,fun i hi=>(h2 i hi).sub hB hk⟩
theorem InsAt.sub (h : InsAt w B A ins) (hB : B ≤ B') (hk : ∀ p u,w.cell? p = some u → w'.cell? p = some u) : InsAt w' B' A ins:=by
 obtain ⟨cs,h1⟩:=h;exact ⟨cs,fun i hi=>⟨(h1 i hi).1.sub hB hk,(h1 i hi).2.sub hB hk⟩⟩
theorem CodeAt.sub (h : CodeAt w B v k) (hB : B ≤ B') (hk : ∀ p u,w.cell? p = some u → w'.cell? p = some u) : CodeAt w' B' v k :=
 ⟨h.gl,h.ll,h.pl,h.el,h.il,h.g.sub hB hk,h.l.sub hB hk,h.p.sub hB hk,h.e.sub hB hk,h.i.sub hB hk⟩
end
section
variable {w w' : World} {lo lo' : Nat}
theorem high_below (hl : lo' ≤ lo) (hb : Below w.heap.size w w') : ∀ p u,(High w lo).cell? p = some u → (High w' lo').cell? p = some u:=fun p u h=>high_keep hl (fun b _ hb'=>hb.block b hb') h
theorem high_set (hl : lo' ≤ lo) {a : Addr} (ha : a.block < lo) (x : Value) : ∀ p u,(High w lo).cell? p = some u → (High (w.setCell a x) lo').cell? p = some u :=
 fun p u h=>high_keep hl (fun b hb _=>Below.heap_setCell w a x b (by omega)) h
theorem high_low : ∀ p u,(High w lo).cell? p = some u → w.cell? p = some u:=fun p u h=>high_cell h
theorem high_mono (hl : lo' ≤ lo) : ∀ p u,(High w lo).cell? p = some u → (High w lo').cell? p = some u:=fun p u h=>high_keep hl (fun _ _ _=>rfl) h
theorem own_high {base : Nat} {t : TypeId} {size n : Nat} {A : Option Addr} {c : Nat} {xs : List Value} (h : w.ownsRow base t size (.slice A n c) n xs) : Rd (High w base) w.heap.size A xs:=by
 have hr:=own_rd h;intro j u hu;obtain ⟨ad,e,hb,hc⟩:=hr j u hu;refine ⟨ad,e,hb,high_some.2 ?_⟩;rw [block_of_add];subst e;rcases h.2 with ⟨e,h0⟩ | ⟨g,cap,cur,e,hg,hh,_⟩
 · simp at e
 · injection e with e1 e2 e3;injection e1 with e1;subst e1;exact ⟨hg,hc,_,_,hh⟩
end
def putL (ys : List Value) (i : Nat) : List Value → List Value
 | []=>ys
 | v :: r=>putL (ys.set i v) (i + 1) r
theorem putL_len (vs : List Value) : ∀ (ys : List Value) (i : Nat),(putL ys i vs).length = ys.length:=by
 induction vs with
 | nil=>intro ys i;rfl
 | cons v r ih=>intro ys i;rw [putL,ih];simp
theorem putL_get (vs : List Value) : ∀ (ys : List Value) (i m : Nat),i + vs.length ≤ ys.length → (putL ys i vs)[m]? = if i ≤ m ∧ m < i + vs.length then vs[m - i]? else ys[m]?:=by
 induction vs with
 | nil=>intro ys i m h;rw [putL,if_neg (by simp only [List.length_nil];omega)]
 | cons v r ih =>
  intro ys i m h;simp only [List.length_cons] at h;rw [putL,ih _ _ _ (by simp;omega)];simp only [List.length_cons];by_cases h1 : i + 1 ≤ m ∧ m < i + 1 + r.length
  ·
   rw [if_pos h1,if_pos (by omega)];have e : m - i = (m - (i + 1)) + 1:=by omega
   rw [e,List.getElem?_cons_succ]
  ·
   rw [if_neg h1];by_cases h2 : m = i
   · subst h2;rw [if_pos (by omega),List.getElem?_set_self (by omega)];simp
   · rw [if_neg (by omega),List.getElem?_set_ne (by omega)]
def setL (w : World) (g : Nat) (i : Nat) : List Value → World
 | []=>w
 | v :: r=>setL (w.setCell ⟨g,i,none⟩ v) g (i + 1) r
theorem setL_own {base : Nat} {t : TypeId} {size n cap g : Nat} (vs : List Value) : ∀ (w : World) (ys : List Value) (i : Nat), w.ownsRow base t size (.slice (some ⟨g, 0, none⟩) n cap) n ys →
  (setL w g i vs).ownsRow base t size (.slice (some ⟨g,0,none⟩) n cap) n (putL ys i vs) ∧ w.grownBy (setL w g i vs) (some g):=by
 induction vs with
 | nil=>intro w ys i h;exact ⟨h,World.grownBy.refl _ _⟩
 | cons v r ih =>
  intro w ys i h;obtain ⟨h1,h2⟩:=h.stored i v;obtain ⟨h3,h4⟩:=ih _ _ (i + 1) h1;exact ⟨h3,h2.trans h4⟩
theorem high_grown {w w' : World} {g lo lo' : Nat} (hl : lo' ≤ lo) (hg : w.grownBy w' (some g)) (h : g < lo) : ∀ p u,(High w lo).cell? p = some u → (High w' lo').cell? p = some u :=
 fun p u hp=>high_keep hl (fun b hb hb'=>hg.block b hb' (by simp;omega)) hp
def RowsAt (ys : List Value) (s : Nat) (cs : Nat → List Value) (k : Nat) : Prop:=∀ i,i < k → (cs i).length = s ∧ ∀ j u,(cs i)[j]? = some u → ys[i * s + j]? = some u
theorem RowsAt.zero (ys : List Value) (s : Nat) (cs : Nat → List Value) : RowsAt ys s cs 0:=fun i h=>by omega
theorem RowsAt.put {ys : List Value} {s : Nat} {cs : Nat → List Value} {k n : Nat} (h : RowsAt ys s cs k) (vs : List Value) (hv : vs.length = s) (hl : ys.length = n * s) (hk : k < n) : RowsAt (putL ys (k * s) vs) s (fun i=>if i = k then vs else cs i) (k + 1):=by
 have hle : (k + 1) * s ≤ n * s:=Nat.mul_le_mul_right _ hk;have hks : (k + 1) * s = k * s + s:=by rw [Nat.add_mul,Nat.one_mul]
 intro i hi;by_cases e : i = k
 ·
  subst e;simp only [if_true];refine ⟨hv,fun j u hj=>?_⟩;have hjs : j < s:=by rw [← hv];exact (List.getElem?_eq_some_iff.1 hj).1
  rw [putL_get _ _ _ _ (by omega),if_pos (by omega)];have e : i * s + j - i * s = j:=by omega
  rw [e];exact hj
 ·
  simp only [e,if_false];obtain ⟨h1,h2⟩:=h i (by omega);refine ⟨h1,fun j u hj=>?_⟩;have hjs : j < s:=by rw [← h1];exact (List.getElem?_eq_some_iff.1 hj).1
  have hle2 : (i + 1) * s ≤ k * s:=Nat.mul_le_mul_right _ (by omega);have hks2 : (i + 1) * s = i * s + s:=by rw [Nat.add_mul,Nat.one_mul]
  rw [putL_get _ _ _ _ (by omega),if_neg (by omega)];exact h2 j u hj
theorem RowsAt.row {w : World} {B s k : Nat} {A : Option Addr} {ys : List Value} {cs : Nat → List Value} (h : RowsAt ys s cs k) (hr : Rd w B A ys) {i : Nat} (hi : i < k) : Row w B A (i * s) (cs i) :=
 fun j u hj=>hr _ _ ((h i hi).2 j u hj)
end Go.Proofs.Ytkgoajnnkimkaaa
