/- Marks that a law lays into code that it made: what they leave as it was. -/
import Derived.Test.YtkgoajnnkimkaaaB2
import Derived.Test.YtkgoajnnkimkaaaC1
import Derived.Laws.BytesArg
set_option linter.unusedSimpArgs false
set_option linter.unusedVariables false
set_option maxRecDepth 100000
set_option maxHeartbeats 16000000
namespace Go.Proofs.Ytkgoajnnkimkaaa
open Go.ChangeShapes Go.WideShapes Go.ChangeAt Go.RowKit
def Scal (u : Value) : Prop:=(∃ k n,u = .int k n) ∨ ∃ s,u = .string s
theorem scal_slice {A : Option Addr} {n c : Nat} : ¬ Scal (.slice A n c):=by
 rintro (⟨k,m,h⟩ | ⟨s,h⟩) <;> simp at h
structure Mk (lo hi : Nat) (w w' : World) : Prop where
 os : w'.os = w.os
 tape : w'.tape = w.tape
 output : w'.output = w.output
 size : w.heap.size ≤ w'.heap.size
 block : ∀ b,b < w.heap.size → b < lo ∨ hi ≤ b → w'.heap[b]? = w.heap[b]?
 cells : ∀ (a : Addr) u,(High w lo).cell? a = some u → a.block < hi → ∃ u',(High w' lo).cell? a = some u' ∧ (u' = u ∨ (Scal u ∧ Scal u'))
section
variable {lo hi : Nat} {w w1 w2 : World}
theorem Mk.refl (lo hi : Nat) (w : World) : Mk lo hi w w:=⟨rfl,rfl,rfl,Nat.le_refl _,fun _ _ _=>rfl,fun a u h _=>⟨u,h,.inl rfl⟩⟩
theorem Mk.trans (h : Mk lo hi w w1) (k : Mk lo hi w1 w2) : Mk lo hi w w2:=by
 refine ⟨k.os.trans h.os,k.tape.trans h.tape,k.output.trans h.output,Nat.le_trans h.size k.size,fun b hb hr=>(k.block b (Nat.lt_of_lt_of_le hb h.size) hr).trans (h.block b hb hr),fun a u hu ha=>?_⟩;obtain ⟨u1,h1,h2⟩:=h.cells a u hu ha;obtain ⟨u2,h3,h4⟩:=k.cells a u1 h1 ha;refine ⟨u2,h3,?_⟩;rcases h2 with rfl | ⟨h5,h6⟩
 · exact h4
 ·
  rcases h4 with rfl | ⟨h7,h8⟩
  · exact .inr ⟨h5,h6⟩
  · exact .inr ⟨h5,h8⟩
theorem Mk.below (hb : Below w.heap.size w w1) : Mk lo hi w w1 :=
 ⟨hb.os,hb.tape,hb.output,hb.size,fun b h _=>hb.block b h,fun a u h _=>⟨u,high_below (Nat.le_refl _) hb a u h,.inl rfl⟩⟩
theorem Mk.set {a : Addr} {u x : Value} (h : (High w lo).cell? a = some u) (ha : a.block < hi) (hu : Scal u) (hx : Scal x) : Mk lo hi w (w.setCell a x):=by
 have hlo:=high_le h;refine ⟨rfl,rfl,rfl,by simp,fun b _ hr=>Below.heap_setCell w a x b (by omega),fun b y hy hb=>?_⟩;obtain ⟨h1,h2,c,t,h3⟩:=high_some.1 hy;have hblk : ∃ c t,(w.setCell a x).heap[b.block]? = some (.cells c t (0,0)):=by
  by_cases e : b.block = a.block
  · refine ⟨if a.spot.isSome then c else c.setIfInBounds a.off x,t,?_⟩;unfold World.setCell;simp only [Array.getElem?_modify];rw [if_pos e.symm,h3];rfl
  · exact ⟨c,t,(Below.heap_setCell w a x b.block e).trans h3⟩
 by_cases e : b = a
 · subst e;refine ⟨x,high_some.2 ⟨h1,World.cell?_setCell_same w b x h2,hblk⟩,.inr ⟨?_,hx⟩⟩;rw [h] at hy;injection hy with hy;subst hy;exact hu
 · refine ⟨y,high_some.2 ⟨h1,(World.cell?_setCell_other w a b x fun h=>e h.symm).trans h2,hblk⟩,.inl rfl⟩
theorem Mk.slice (m : Mk lo hi w w1) {a : Addr} {A : Option Addr} {n c : Nat} (h : (High w lo).cell? a = some (.slice A n c)) (ha : a.block < hi) : (High w1 lo).cell? a = some (.slice A n c):=by
 obtain ⟨u',h1,h2⟩:=m.cells a _ h ha;rcases h2 with rfl | ⟨h2,_⟩
 · exact h1
 · exact absurd h2 scal_slice
theorem Mk.own (m : Mk lo hi w w1) {base : Nat} {t : TypeId} {size n : Nat} {v : Value} {xs : List Value} (ho : w.ownsRow base t size v n xs) (hb : hi ≤ base) : w1.ownsRow base t size v n xs:=by
 refine ⟨ho.1,?_⟩;rcases ho.2 with h0 | ⟨g,cap,cur,e,hg,hh,r⟩
 · exact .inl h0
 · exact .inr ⟨g,cap,cur,e,hg,(m.block g (Array.getElem?_eq_some_iff.1 hh).1 (.inr (by omega))).trans hh,r⟩
theorem Mk.low (m : Mk lo hi w w1) (hl : lo ≤ w.heap.size) : Below lo w w1:=⟨m.os,m.tape,m.output,m.size,fun b hb=>m.block b (by omega) (.inl hb)⟩
end
end Go.Proofs.Ytkgoajnnkimkaaa
