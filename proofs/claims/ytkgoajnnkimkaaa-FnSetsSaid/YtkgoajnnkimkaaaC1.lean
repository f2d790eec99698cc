/- Contracts of nextIn, and of l09Next: what comes next. -/
import Derived.Test.YtkgoajnnkimkaaaB1
import Derived.Test.YtkgoajnnkimkaaaB3
import Derived.Test.YtkgoajnnkimkaaaB4
import Derived.Carry
import Derived.ChangeSame
import Derived.ChangeSlices
import Derived.Deep.LoopGhost
import Derived.Deep.Strs
import Derived.Lib.SmallJoins
set_option linter.unusedSimpArgs false
set_option linter.unusedVariables false
set_option maxRecDepth 100000
set_option maxHeartbeats 16000000
namespace Go.Proofs.Ytkgoajnnkimkaaa
open Go.ChangeShapes Go.WideShapes Go.ChangeAt Go.RowKit
def nv (xs : List Nat) : List Value:=(xs.map natI).map iv
theorem Rd.nat {w : World} {B : Nat} {A : Option Addr} {xs : List Nat} (h : Rd w B A (nv xs)) {j : Nat} (hj : j < xs.length) : ∃ ad,A = some ad ∧ ad.block < B ∧ w.cell? (ad.add j) = some (.int .i64 (xs[j] : Int)) :=
 h j _ (by simp [nv,hj,iv,natI])
def NewNats (w : World) (xs : List Nat) (e : Ending) (w' : World) : Prop:=NewRow w 3 1 xs.length (nv xs) e w'
def KAt (W : World) (g : Nat) (v : CV) (k : Cd) : Prop :=
 W.cell? ⟨g,0,none⟩ = some (.slice v.gA k.globals.length v.gc) ∧ W.cell? ⟨g,1,none⟩ = some (.slice v.lA k.locks.length v.lc) ∧
  W.cell? ⟨g,2,none⟩ = some (.slice v.pA k.procs.length v.pc) ∧ W.cell? ⟨g,3,none⟩ = some (.slice v.eA k.entry.length v.ec) ∧ W.cell? ⟨g,4,none⟩ = some (.slice v.iA k.ins.length v.ic)
theorem KAt.to {W W' : World} {g : Nat} {v : CV} {k : Cd} (h : KAt W g v k) (hb : Below W.heap.size W W') : KAt W' g v k:=by
 obtain ⟨c0,c1,c2,c3,c4⟩:=h;exact ⟨cell_below hb c0,cell_below hb c1,cell_below hb c2,cell_below hb c3,cell_below hb c4⟩
theorem KAt.grown {W W' : World} {g : Nat} {v : CV} {k : Cd} {row : Option Nat} (h : KAt W g v k) (hg : W.grownBy W' row) (hne : some g ≠ row) : KAt W' g v k:=by
 obtain ⟨c0,c1,c2,c3,c4⟩:=h;exact ⟨hg.cell c0 hne,hg.cell c1 hne,hg.cell c2 hne,hg.cell c3 hne,hg.cell c4 hne⟩
end Go.Proofs.Ytkgoajnnkimkaaa
namespace Go.Proofs.Ytkgoajnnkimkaaa
open Go.ChangeShapes Go.WideShapes Go.ChangeAt Go.RowKit
theorem grownNew {a b c : World} {g : Nat} {row : Option Nat} (h : a.grownBy b (some g)) (k : b.grownBy c row) (hr : ∀ x,row = some x → a.heap.size ≤ x) : a.grownBy c (some g) :=
 ⟨k.os.trans h.os,k.tape.trans h.tape,k.output.trans h.output,Nat.le_trans h.size k.size,fun x hx hne=>(k.block x (Nat.lt_of_lt_of_le hx h.size) (fun e=>by have:=hr x e.symm;omega)).trans (h.block x hx hne)⟩
theorem grownBelow {a b c : World} {g : Nat} (h : a.grownBy b (some g)) (k : Below b.heap.size b c) : a.grownBy c (some g) :=
 ⟨k.os.trans h.os,k.tape.trans h.tape,k.output.trans h.output,Nat.le_trans h.size k.size,fun x hx hne=>(k.block x (Nat.lt_of_lt_of_le hx h.size)).trans (h.block x hx hne)⟩
theorem below_grown {a b : World} {g B : Nat} (h : a.grownBy b (some g)) (hB : B ≤ a.heap.size) (hg : B ≤ g) : Below B a b :=
 ⟨h.os,h.tape,h.output,h.size,fun x hx=>h.block x (by omega) (by simp;omega)⟩
theorem own_lt {w : World} {base : Nat} {t : TypeId} {g n c : Nat} {xs : List Value} (h : w.ownsRow base t 1 (.slice (some ⟨g,0,none⟩) n c) n xs) : base ≤ g ∧ g < w.heap.size:=h.lt g rfl
theorem bv_set (ms : List Bool) (j : Nat) (b : Bool) : (ms.map bv).set j (bv b) = (ms.set j b).map bv:=by rw [List.map_set]
structure Spr (w : World) (base gm c n : Nat) (nx : Nat → List Nat) (a : Nat) (ms0 : List Bool) (m : Nat) (td : Value) (xs opn : List Nat) (ms : List Bool) (wr : World) : Prop where
 todo : wr.ownsRow w.heap.size 3 1 td xs.length (nv xs)
 srch : Srch nx a ms0 ms opn
 marks : wr.ownsRow base 4 1 (.slice (some ⟨gm,0,none⟩) n c) n (ms.map bv)
 grown : w.grownBy wr (some gm)
 gm_lt : gm < w.heap.size
 meas : 2 * unm ms + opn.length ≤ m
 cnt : xs.length + unm ms ≤ n + 1
section
variable {w wr w1 w2 : World} {base gm c n : Nat} {nx : Nat → List Nat} {a : Nat} {ms0 : List Bool} {m : Nat} {td td' : Value} {xs opn : List Nat} {ms : List Bool}
theorem Spr.len (h : Spr w base gm c n nx a ms0 m td xs opn ms wr) : ms.length = n:=by have:=own_len h.marks;simpa using this
theorem Spr.below (h : Spr w base gm c n nx a ms0 m td xs opn ms wr) (hb : Below wr.heap.size wr w1) : Spr w base gm c n nx a ms0 m td xs opn ms w1 :=
 ⟨own_below h.todo hb,h.srch,own_below h.marks hb,grownBelow h.grown hb,h.gm_lt,h.meas,h.cnt⟩
theorem Spr.apart (h : Spr w base gm c n nx a ms0 m td xs opn ms wr) : td.ownBlock = none ∨ td.ownBlock ≠ some gm:=by
 cases e : td.ownBlock with
 | none=>exact .inl rfl
 | some b =>
  right
  have:=(h.todo.lt b e).1;have:=h.gm_lt;intro h1;injection h1 with h1;omega
theorem Spr.mark (h : Spr w base gm c n nx a ms0 m td xs opn ms wr) {y : Nat} (hy : y < n) (hn0 : mkd ms y = false) {x : Nat} (hx : x ∈ opn) (hn : y ∈ nx x) :
  (wr.setCell ⟨gm,y,none⟩ (.bool true)).ownsRow w.heap.size 3 1 td xs.length (nv xs) ∧ (wr.setCell ⟨gm,y,none⟩ (.bool true)).ownsRow base 4 1 (.slice (some ⟨gm,0,none⟩) n c) n ((ms.set y true).map bv) ∧ wr.grownBy (wr.setCell ⟨gm,y,none⟩ (.bool true)) (some gm):=by
 obtain ⟨s1,s2⟩:=h.marks.stored y (bv true);rw [bv_set] at s1;exact ⟨h.todo.kept s2 h.apart,s1,s2⟩
theorem Spr.push (h : Spr w base gm c n nx a ms0 m td xs opn ms wr) {y : Nat} (hy : y < n) (hn0 : mkd ms y = false) {x : Nat} (hx : x ∈ opn) (hn : y ∈ nx x)
  (ho : w2.ownsRow w.heap.size 3 1 td' (xs.length + 1) (((xs.map natI) ++ [(y : Int)]).map iv)) (hg : (wr.setCell ⟨gm,y,none⟩ (.bool true)).grownBy w2 td.ownBlock) :
  Spr w base gm c n nx a ms0 (m - 1) td' (xs ++ [y]) (opn ++ [y]) (ms.set y true) w2:=by
 obtain ⟨s0,s1,s2⟩:=h.mark hy hn0 hx hn;have hl:=h.len;have hu:=unm_set (ms:=ms) (a:=y) (by omega) hn0;have hm:=h.meas;have hc:=h.cnt;refine ⟨?_,h.srch.push hx hn (by omega) hn0,?_,?_,h.gm_lt,?_,?_⟩
 ·
  have e : nv (xs ++ [y]) = ((xs.map natI) ++ [(y : Int)]).map iv:=by simp [nv,natI]
  rw [e];simpa using ho
 ·
  refine s1.kept hg (.inr ?_);rcases h.apart with e | e
  · rw [e];simp [Value.ownBlock]
  · exact fun h=>e h.symm
 · exact grownNew (h.grown.trans s2) hg fun b hb=>(h.todo.lt b hb).1
 · simp only [List.length_append,List.length_cons,List.length_nil];omega
 · simp only [List.length_append,List.length_cons,List.length_nil];omega
end
section
variable {w wr : World} {base gm c n : Nat} {nx : Nat → List Nat} {a : Nat} {ms0 : List Bool} {m : Nat} {td : Value} {xs : List Nat} {ms : List Bool}
theorem Spr.done {x : Nat} {r : List Nat} (h : Spr w base gm c n nx a ms0 m td xs (x :: r) ms wr) (hx : ∀ y ∈ nx x,mkd ms y = true) : Spr w base gm c n nx a ms0 (m - 1) td xs r ms wr:=by
 have hm:=h.meas;simp only [List.length_cons] at hm;exact ⟨h.todo,h.srch.done hx,h.marks,h.grown,h.gm_lt,by omega,h.cnt⟩
theorem Spr.mono {m' : Nat} {opn : List Nat} (h : Spr w base gm c n nx a ms0 m td xs opn ms wr) (hm : m ≤ m') : Spr w base gm c n nx a ms0 m' td xs opn ms wr :=
 ⟨h.todo,h.srch,h.marks,h.grown,h.gm_lt,Nat.le_trans h.meas hm,h.cnt⟩
end
def Apart (u v : Value) : Prop:=∀ b,u.ownBlock = some b → v.ownBlock ≠ some b
theorem Apart.kept {u v : Value} (h : Apart u v) : u.ownBlock = none ∨ u.ownBlock ≠ v.ownBlock:=by
 cases e : u.ownBlock with
 | none=>exact .inl rfl
 | some b=>exact .inr fun h1=>h b e h1.symm
end Go.Proofs.Ytkgoajnnkimkaaa
