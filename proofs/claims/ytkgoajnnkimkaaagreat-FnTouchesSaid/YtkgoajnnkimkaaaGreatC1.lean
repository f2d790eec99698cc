/- Contracts of nextIn, and of l09Next: what comes next. -/
import Derived.Test.YtkgoajnnkimkaaaGreatB1
import Derived.Test.YtkgoajnnkimkaaaGreatB3
import Derived.Test.YtkgoajnnkimkaaaGreatA9
import Derived.Test.YtkgoajnnkimkaaaGreatB4
import Derived.Carry
import Derived.ChangeSame
import Derived.ChangeSlices
import Derived.Deep.LoopGhost
import Derived.Deep.Strs
import Derived.Lib.SmallJoins
set_option linter.unusedSimpArgs false
set_option linter.unusedVariables false
set_option maxRecDepth 100000
set_option maxHeartbeats 16000000
namespace Go.Proofs.YtkgoajnnkimkaaaGreat
open Go.ChangeShapes Go.WideShapes Go.ChangeAt Go.RowKit
def nv (xs : List Nat) : List Value:=(xs.map natI).map iv
theorem nv_append (xs ys : List Nat) : nv (xs ++ ys) = nv xs ++ nv ys:=by simp [nv]
theorem Rd.nat {w : World} {B : Nat} {A : Option Addr} {xs : List Nat} (h : Rd w B A (nv xs)) {j : Nat} (hj : j < xs.length) : ∃ ad,A = some ad ∧ ad.block < B ∧ w.cell? (ad.add j) = some (.int .i64 (xs[j] : Int)) :=
 h j _ (by simp [nv,hj,iv,natI])
def NewNats (w : World) (xs : List Nat) (e : Ending) (w' : World) : Prop:=NewRow w 3 1 xs.length (nv xs) e w'
def KAt (W : World) (g : Nat) (v : CV) (k : Cd) : Prop :=
 W.cell? ⟨g,0,none⟩ = some (.slice v.gA k.globals.length v.gc) ∧ W.cell? ⟨g,1,none⟩ = some (.slice v.lA k.locks.length v.lc) ∧
  W.cell? ⟨g,2,none⟩ = some (.slice v.pA k.procs.length v.pc) ∧ W.cell? ⟨g,3,none⟩ = some (.slice v.eA k.entry.length v.ec) ∧ W.cell? ⟨g,4,none⟩ = some (.slice v.iA k.ins.length v.ic)
theorem KAt.to {W W' : World} {g : Nat} {v : CV} {k : Cd} (h : KAt W g v k) (hb : Below W.heap.size W W') : KAt W' g v k:=by
 obtain ⟨c0,c1,c2,c3,c4⟩:=h;exact ⟨cell_below hb c0,cell_below hb c1,cell_below hb c2,cell_below hb c3,cell_below hb c4⟩
theorem KAt.grown {W W' : World} {g : Nat} {v : CV} {k : Cd} {row : Option Nat} (h : KAt W g v k) (hg : W.grownBy W' row) (hne : some g ≠ row) : KAt W' g v k:=by
 obtain ⟨c0,c1,c2,c3,c4⟩:=h;exact ⟨hg.cell c0 hne,hg.cell c1 hne,hg.cell c2 hne,hg.cell c3 hne,hg.cell c4 hne⟩
theorem kAt_of {w W : World} {v : CV} {k : Cd} (h : CodeBox w v k W) : KAt W w.heap.size v k:=h.2.2
theorem newNats_lit (w W : World) (xs : List Nat) (hl : xs.length ≤ 1099511627776) (hb : Below w.heap.size w W) (g : Nat) (hg : g = W.heap.size) (e : Ending) (he : e = .returned (.slice (some ⟨g,0,none⟩) xs.length xs.length)) (w' : World) (hw : w' = W.alloc (.cells (nv xs).toArray 3)) : NewNats w xs e w':=by
 subst hw he hg;refine ⟨_,_,rfl,?_,below_trans' hb (below_alloc0 _ _)⟩;have:=World.ownsRow_lit (base:=w.heap.size) (e := 3) (size:=1) W (nv xs).toArray xs.length hb.size (by unfold maxLen;omega) (by simp [nv]);simpa using this
theorem nextIn_any {B : Nat} (g : Nat) (v : CV) (k : Cd) (a : Nat) (w : World) (hr : Right k) (hk : CodeAt w B v k) (hg : KAt w g v k) (ha : a < k.ins.length) :
  Calls Tryz.prog 123 #[.pointer (some ⟨g,0,none⟩),.int .i64 a] w (NewNats w (nextL k a)):=by
 obtain ⟨ad,A',c',eA,hbl,k0,k1,k2,k3,k4,k5,k6,_⟩:=hk.i.get ha;obtain ⟨c0,c1,c2,c3,c4⟩:=hg;rw [eA] at c4;rw [opN_eq ha] at k0;have hins:=hr.ins;have HT:=Lib.hid (fun h=>toN_eq hr ha h);have z1 : (0 : Int) ≤ (a : Int):=by omega
 have z2 : (a : Int) < (k.ins.length : Int):=by omega
 have hb0 : ∀ o,Below w.heap.size w (w.alloc o):=fun o=>below_alloc0 w o;clear eA hk;by_cases h9 : opN k a = 9
 ·
  have HN:=Lib.hid (show nextL k a = [] from by simp [nextL,h9]);rw [h9] at k0;clear h9
  go_enter Tryz.func123, Tryz.ntmps123
  go_wp2
  go_ret
  rw [HN.out];exact ⟨none,0,rfl,World.ownsRow_nil _ _ _ _,hb0 _⟩
 ·
  by_cases h3 : opN k a = 3
  ·
   have HN:=Lib.hid (show nextL k a = [toN k a] from by simp [nextL,h3]);rw [HT.out (.inr h3)] at k6;rw [h3] at k0;clear h3 h9
   go_enter Tryz.func123, Tryz.ntmps123
   go_wp2
   go_ret
   rw [HN.out];exact newNats_lit _ _ [toN k a] (by simp) (hb0 _) (w.heap.size + 1) (by simp) _ rfl _ rfl
  ·
   by_cases h2 : opN k a = 2
   ·
    rw [HT.out (.inl h2)] at k6;by_cases ht : toN k a = a + 1
    ·
     have HN:=Lib.hid (show nextL k a = [a + 1] from by simp [nextL,h2,ht]);have e1 : ((toN k a : Int) != (a : Int) + 1) = false:=by simp;omega
     rw [h2] at k0;clear h2 h3 h9 ht
     go_enter Tryz.func123, Tryz.ntmps123
     go_wp2
     go_ret
     rw [HN.out];exact newNats_lit _ _ [a + 1] (by simp) (hb0 _) (w.heap.size + 1) (by simp) _ rfl _ rfl
    ·
     have HN:=Lib.hid (show nextL k a = [a + 1,toN k a] from by simp [nextL,h2,ht]);have e1 : ((toN k a : Int) != (a : Int) + 1) = true:=by simp;omega
     rw [h2] at k0;clear h2 h3 h9 ht
     go_enter Tryz.func123, Tryz.ntmps123
     go_wp2
     go_ret
     rw [HN.out];exact newNats_lit _ _ [a + 1,toN k a] (by simp) (hb0 _) (w.heap.size + 1) (by simp) _ rfl _ rfl
   ·
    have HN:=Lib.hid (show nextL k a = [a + 1] from by simp [nextL,h9,h3,h2]);have e9 : (opN k a == 9) = false:=by simpa using h9
    have e3 : (opN k a == 3) = false:=by simpa using h3
    have e2 : (opN k a == 2) = false:=by simpa using h2
    clear h2 h3 h9
    go_enter Tryz.func123, Tryz.ntmps123
    go_wp2
    go_ret
    rw [HN.out];exact newNats_lit _ _ [a + 1] (by simp) (hb0 _) (w.heap.size + 1) (by simp) _ rfl _ rfl
theorem l09Next_any {B : Nat} (v : CV) (k : Cd) (a : Nat) (w : World) (hr : Right k) (hk : CodeAt w B v k) (ha : a < k.ins.length) :
  Calls Tryz.prog 178 #[.agg #[.slice v.gA k.globals.length v.gc, .slice v.lA k.locks.length v.lc, .slice v.pA k.procs.length v.pc, .slice v.eA k.entry.length v.ec, .slice v.iA k.ins.length v.ic],.int .i64 a] w (NewNats w (nextL k a)):=by
 obtain ⟨ad,A',c',eA,hbl,k0,k1,k2,k3,k4,k5,k6,_⟩:=hk.full.i.get ha;rw [eA];rw [opN_eq ha] at k0;have hins:=hr.ins;have HT:=Lib.hid (fun h=>toN_eq hr ha h);have z1 : (0 : Int) ≤ (a : Int):=by omega
 have z2 : (a : Int) < (k.ins.length : Int):=by omega
 have hb0 : ∀ o o',Below w.heap.size w ((w.alloc o).alloc o'):=fun o o'=>below_trans' (below_alloc0 w o) (below_alloc0 _ _);clear eA hk;by_cases h9 : opN k a = 9
 ·
  have HN:=Lib.hid (show nextL k a = [] from by simp [nextL,h9]);rw [h9] at k0;clear h9
  go_enter Tryz.func178, Tryz.ntmps178
  go_wp2
  go_ret
  rw [HN.out];exact newNats_lit _ _ [] (by simp) (hb0 _ _) (w.heap.size + 1 + 1) (by simp) _ rfl _ rfl
 ·
  by_cases h3 : opN k a = 3
  ·
   have HN:=Lib.hid (show nextL k a = [toN k a] from by simp [nextL,h3]);rw [HT.out (.inr h3)] at k6;rw [h3] at k0;clear h3 h9
   go_enter Tryz.func178, Tryz.ntmps178
   go_wp2
   go_ret
   rw [HN.out];exact newNats_lit _ _ [toN k a] (by simp) (hb0 _ _) (w.heap.size + 1 + 1) (by simp) _ rfl _ rfl
  ·
   by_cases h2 : opN k a = 2
   ·
    rw [HT.out (.inl h2)] at k6;by_cases ht : toN k a = a + 1
    ·
     have HN:=Lib.hid (show nextL k a = [a + 1] from by simp [nextL,h2,ht]);have e1 : ((toN k a : Int) == (a : Int) + 1) = true:=by simp;omega
     rw [h2] at k0;clear h2 h3 h9 ht
     go_enter Tryz.func178, Tryz.ntmps178
     go_wp2
     go_ret
     rw [HN.out];exact newNats_lit _ _ [a + 1] (by simp) (hb0 _ _) (w.heap.size + 1 + 1) (by simp) _ rfl _ rfl
    ·
     have HN:=Lib.hid (show nextL k a = [a + 1,toN k a] from by simp [nextL,h2,ht]);have e1 : ((toN k a : Int) == (a : Int) + 1) = false:=by simp;omega
     rw [h2] at k0;clear h2 h3 h9 ht
     go_enter Tryz.func178, Tryz.ntmps178
     go_wp2
     go_ret
     rw [HN.out];exact newNats_lit _ _ [a + 1,toN k a] (by simp) (hb0 _ _) (w.heap.size + 1 + 1) (by simp) _ rfl _ rfl
   ·
    have HN:=Lib.hid (show nextL k a = [a + 1] from by simp [nextL,h9,h3,h2]);have e9 : (opN k a == 9) = false:=by simpa using h9
    have e3 : (opN k a == 3) = false:=by simpa using h3
    have e2 : (opN k a == 2) = false:=by simpa using h2
    clear h2 h3 h9
    go_enter Tryz.func178, Tryz.ntmps178
    go_wp2
    go_ret
    rw [HN.out];exact newNats_lit _ _ [a + 1] (by simp) (hb0 _ _) (w.heap.size + 1 + 1) (by simp) _ rfl _ rfl
end Go.Proofs.YtkgoajnnkimkaaaGreat
namespace Go.Proofs.YtkgoajnnkimkaaaGreat
open Go.ChangeShapes Go.WideShapes Go.ChangeAt Go.RowKit
theorem nil_or_snoc {α : Type} (xs : List α) : xs = [] ∨ ∃ ys x,xs = ys ++ [x]:=by
 rcases List.eq_nil_or_concat xs with h | ⟨ys,x,h⟩
 · exact .inl h
 · exact .inr ⟨ys,x,by rw [h,List.concat_eq_append]⟩
theorem own_pop {w : World} {base : Nat} {t : TypeId} {g n c : Nat} {xs : List Value} {u : Value} (h : w.ownsRow base t 1 (.slice (some ⟨g,0,none⟩) (n + 1) c) (n + 1) (xs ++ [u])) : w.ownsRow base t 1 (.slice (some ⟨g,0,none⟩) n c) n xs:=by
 obtain ⟨h1,h2⟩:=h;have hl : xs.length = n:=by simp at h1;omega
 refine ⟨by omega,?_⟩;rcases h2 with ⟨h3,h4⟩ | ⟨g',cap,cur,e,hg,hh,hc,hm,hs,ht⟩
 · simp at h4
 · injection e with e1 e2 e3;injection e1 with e1;injection e1 with e1;subst e1 e3;refine .inr ⟨g,c,cur,rfl,hg,hh,by omega,hm,hs,?_⟩;have h5:=congrArg (List.take n) ht;rw [List.take_take,Nat.min_eq_left (by omega),List.take_append_of_le_length (by omega),List.take_of_length_le (l:=xs) (by omega)] at h5;rw [Nat.mul_one];exact h5
theorem grownNew {a b c : World} {g : Nat} {row : Option Nat} (h : a.grownBy b (some g)) (k : b.grownBy c row) (hr : ∀ x,row = some x → a.heap.size ≤ x) : a.grownBy c (some g) :=
 ⟨k.os.trans h.os,k.tape.trans h.tape,k.output.trans h.output,Nat.le_trans h.size k.size,fun x hx hne=>(k.block x (Nat.lt_of_lt_of_le hx h.size) (fun e=>by have:=hr x e.symm;omega)).trans (h.block x hx hne)⟩
theorem grownBelow {a b c : World} {g : Nat} (h : a.grownBy b (some g)) (k : Below b.heap.size b c) : a.grownBy c (some g) :=
 ⟨k.os.trans h.os,k.tape.trans h.tape,k.output.trans h.output,Nat.le_trans h.size k.size,fun x hx hne=>(k.block x (Nat.lt_of_lt_of_le hx h.size)).trans (h.block x hx hne)⟩
theorem below_grown {a b : World} {g B : Nat} (h : a.grownBy b (some g)) (hB : B ≤ a.heap.size) (hg : B ≤ g) : Below B a b :=
 ⟨h.os,h.tape,h.output,h.size,fun x hx=>h.block x (by omega) (by simp;omega)⟩
theorem own_at {w : World} {base : Nat} {t : TypeId} {g n c : Nat} {xs : List Value} (h : w.ownsRow base t 1 (.slice (some ⟨g,0,none⟩) n c) n xs) {j : Nat} (hj : j < n) {u : Value} (hu : xs[j]? = some u) : w.cell? ⟨g,j,none⟩ = some u:=by
 rw [h.cellAt j (by omega),hu]
theorem own_lt {w : World} {base : Nat} {t : TypeId} {g n c : Nat} {xs : List Value} (h : w.ownsRow base t 1 (.slice (some ⟨g,0,none⟩) n c) n xs) : base ≤ g ∧ g < w.heap.size:=h.lt g rfl
theorem bv_set (ms : List Bool) (j : Nat) (b : Bool) : (ms.map bv).set j (bv b) = (ms.set j b).map bv:=by rw [List.map_set]
section
variable {ops : Array Oper} {rest : List Oper} {o : Oper} {a : Act} {Q : Exit → Act → World → Prop}
theorem append_int2 {wr : World} (hgd : o.guard = none) (s x : Operand) (ho : o.op = .call { callee := .builtin .append, args := #[s, x], argTypes := #[25, 25] })
  {base : Nat} {v : Value} {n : Nat} {xs : List Int} {z : Int} {g : Nat} (hown : wr.ownsRow base 3 1 v n (xs.map iv)) (hs : a.eval s = v) (hx : a.eval x = .slice (some ⟨g,0,none⟩) 1 1) (hg : g = wr.heap.size)
  (hn : n ≤ 1099511627775) (hbase : base ≤ wr.heap.size)
  (hK : ∀ A c w',w'.ownsRow base 3 1 (.slice A (n + 1) c) (n + 1) ((xs ++ [z]).map iv) → wr.grownBy w' v.ownBlock → ((Value.slice A (n + 1) c).ownBlock = v.ownBlock ∨ (Value.slice A (n + 1) c).ownBlock = some (wr.heap.size + 1)) →
   wpList Tryz.prog ops Q rest (a.put o.dst (.slice A (n + 1) c)) w') : wpList Tryz.prog ops Q (o :: rest) a (wr.alloc (.cells #[.int .i64 z] 3)):=by
 subst hg;exact append_int hgd s x ho hown hs hx hn hbase hK
end
structure Spr (w : World) (base gm c n : Nat) (nx : Nat → List Nat) (a : Nat) (ms0 : List Bool) (m : Nat) (td : Value) (xs opn : List Nat) (ms : List Bool) (wr : World) : Prop where
 todo : wr.ownsRow w.heap.size 3 1 td xs.length (nv xs)
 srch : Srch nx a ms0 ms opn
 marks : wr.ownsRow base 4 1 (.slice (some ⟨gm,0,none⟩) n c) n (ms.map bv)
 grown : w.grownBy wr (some gm)
 gm_lt : gm < w.heap.size
 meas : 2 * unm ms + opn.length ≤ m
 cnt : xs.length + unm ms ≤ n + 1
section
variable {w wr w1 w2 : World} {base gm c n : Nat} {nx : Nat → List Nat} {a : Nat} {ms0 : List Bool} {m : Nat} {td td' : Value} {xs opn : List Nat} {ms : List Bool}
theorem Spr.len (h : Spr w base gm c n nx a ms0 m td xs opn ms wr) : ms.length = n:=by have:=own_len h.marks;simpa using this
theorem Spr.below (h : Spr w base gm c n nx a ms0 m td xs opn ms wr) (hb : Below wr.heap.size wr w1) : Spr w base gm c n nx a ms0 m td xs opn ms w1 :=
 ⟨own_below h.todo hb,h.srch,own_below h.marks hb,grownBelow h.grown hb,h.gm_lt,h.meas,h.cnt⟩
theorem Spr.apart (h : Spr w base gm c n nx a ms0 m td xs opn ms wr) : td.ownBlock = none ∨ td.ownBlock ≠ some gm:=by
 cases e : td.ownBlock with
 | none=>exact .inl rfl
 | some b =>
  right
  have:=(h.todo.lt b e).1;have:=h.gm_lt;intro h1;injection h1 with h1;omega
theorem Spr.mark (h : Spr w base gm c n nx a ms0 m td xs opn ms wr) {y : Nat} (hy : y < n) (hn0 : mkd ms y = false) {x : Nat} (hx : x ∈ opn) (hn : y ∈ nx x) :
  (wr.setCell ⟨gm,y,none⟩ (.bool true)).ownsRow w.heap.size 3 1 td xs.length (nv xs) ∧ (wr.setCell ⟨gm,y,none⟩ (.bool true)).ownsRow base 4 1 (.slice (some ⟨gm,0,none⟩) n c) n ((ms.set y true).map bv) ∧ wr.grownBy (wr.setCell ⟨gm,y,none⟩ (.bool true)) (some gm):=by
 obtain ⟨s1,s2⟩:=h.marks.stored y (bv true);rw [bv_set] at s1;exact ⟨h.todo.kept s2 h.apart,s1,s2⟩
theorem Spr.push (h : Spr w base gm c n nx a ms0 m td xs opn ms wr) {y : Nat} (hy : y < n) (hn0 : mkd ms y = false) {x : Nat} (hx : x ∈ opn) (hn : y ∈ nx x)
  (ho : w2.ownsRow w.heap.size 3 1 td' (xs.length + 1) (((xs.map natI) ++ [(y : Int)]).map iv)) (hg : (wr.setCell ⟨gm,y,none⟩ (.bool true)).grownBy w2 td.ownBlock) :
  Spr w base gm c n nx a ms0 (m - 1) td' (xs ++ [y]) (opn ++ [y]) (ms.set y true) w2:=by
 obtain ⟨s0,s1,s2⟩:=h.mark hy hn0 hx hn;have hl:=h.len;have hu:=unm_set (ms:=ms) (a:=y) (by omega) hn0;have hm:=h.meas;have hc:=h.cnt;refine ⟨?_,h.srch.push hx hn (by omega) hn0,?_,?_,h.gm_lt,?_,?_⟩
 ·
  have e : nv (xs ++ [y]) = ((xs.map natI) ++ [(y : Int)]).map iv:=by simp [nv,natI]
  rw [e];simpa using ho
 ·
  refine s1.kept hg (.inr ?_);rcases h.apart with e | e
  · rw [e];simp [Value.ownBlock]
  · exact fun h=>e h.symm
 · exact grownNew (h.grown.trans s2) hg fun b hb=>(h.todo.lt b hb).1
 · simp only [List.length_append,List.length_cons,List.length_nil];omega
 · simp only [List.length_append,List.length_cons,List.length_nil];omega
end
section
variable {w wr : World} {base gm c n : Nat} {nx : Nat → List Nat} {a : Nat} {ms0 : List Bool} {m : Nat} {td : Value} {xs : List Nat} {ms : List Bool}
theorem Spr.pop {gt l ct x : Nat} (h : Spr w base gm c n nx a ms0 m (.slice (some ⟨gt,0,none⟩) l ct) (xs ++ [x]) (xs ++ [x]) ms wr) : Spr w base gm c n nx a ms0 m (.slice (some ⟨gt,0,none⟩) xs.length ct) xs (x :: xs) ms wr:=by
 have ht:=h.todo;obtain ⟨_,_,e⟩:=own_form ht;injection e with _ e _;subst e;have e1 : (xs ++ [x]).length = xs.length + 1:=by simp
 have hm:=h.meas;have hc:=h.cnt;rw [e1] at ht hm hc;rw [nv_append] at ht;exact ⟨own_pop ht,h.srch.perm fun b=>by simp [or_comm],h.marks,h.grown,h.gm_lt,by simpa using hm,by omega⟩
theorem Spr.done {x : Nat} {r : List Nat} (h : Spr w base gm c n nx a ms0 m td xs (x :: r) ms wr) (hx : ∀ y ∈ nx x,mkd ms y = true) : Spr w base gm c n nx a ms0 (m - 1) td xs r ms wr:=by
 have hm:=h.meas;simp only [List.length_cons] at hm;exact ⟨h.todo,h.srch.done hx,h.marks,h.grown,h.gm_lt,by omega,h.cnt⟩
theorem Spr.pos {x : Nat} {r : List Nat} (h : Spr w base gm c n nx a ms0 m td xs (x :: r) ms wr) : 0 < m:=by
 have hm:=h.meas;simp only [List.length_cons] at hm;omega
theorem Spr.mono {m' : Nat} {opn : List Nat} (h : Spr w base gm c n nx a ms0 m td xs opn ms wr) (hm : m ≤ m') : Spr w base gm c n nx a ms0 m' td xs opn ms wr :=
 ⟨h.todo,h.srch,h.marks,h.grown,h.gm_lt,Nat.le_trans h.meas hm,h.cnt⟩
end
def Apart (u v : Value) : Prop:=∀ b,u.ownBlock = some b → v.ownBlock ≠ some b
theorem Apart.kept {u v : Value} (h : Apart u v) : u.ownBlock = none ∨ u.ownBlock ≠ v.ownBlock:=by
 cases e : u.ownBlock with
 | none=>exact .inl rfl
 | some b=>exact .inr fun h1=>h b e h1.symm
theorem take_all {ns : List Nat} {P : Nat → Prop} {j : Nat} (hj : j < ns.length) (h : ∀ y ∈ ns.take j,P y) (h1 : P ns[j]) : ∀ y ∈ ns.take (j + 1),P y:=by
 intro y hy;rw [List.take_succ_eq_append_getElem hj] at hy;rcases List.mem_append.1 hy with hy | hy
 · exact h y hy
 · simp at hy;subst hy;exact h1
theorem spread_any {B base : Nat} (g gm c : Nat) (v : CV) (k : Cd) (a : Nat) (ms : List Bool) (w : World) (hr : Right k) (hk : CodeAt w B v k) (hB : B ≤ gm) (hg : KAt w g v k) (hne : g ≠ gm) (ha : a < k.ins.length)
  (ho : w.ownsRow base 4 1 (.slice (some ⟨gm,0,none⟩) k.ins.length c) k.ins.length (ms.map bv)) :
  Calls Tryz.prog 151 #[.pointer (some ⟨g,0,none⟩),.slice (some ⟨gm,0,none⟩) k.ins.length c,.int .i64 a] w fun e w' =>
   e = .returned (.tuple #[]) ∧ ∃ ms',Srch (nextL k) a ms ms' [] ∧ w'.ownsRow base 4 1 (.slice (some ⟨gm,0,none⟩) k.ins.length c) k.ins.length (ms'.map bv) ∧ w.grownBy w' (some gm):=by
 have hins:=hr.ins;have hgm:=own_lt ho;have hml : ms.length = k.ins.length:=by have:=own_len ho;simpa using this
 have hun:=unm_le ms;have HR:=Lib.hid (fun x n (hx : x < k.ins.length) (hn : n ∈ nextL k x)=>(nextL_in hr hx hn).1);have HNX:=Lib.hid (fun x (hx : x < k.ins.length) W (h : w.grownBy W (some gm))=>nextIn_any g v k x W hr (hk.below (below_grown h (by omega) hB)) (hg.grown h (by simpa using hne)) hx);have hS : Spr w base gm c k.ins.length (nextL k) a ms (2 * k.ins.length + 1) (.slice (some ⟨w.heap.size,0,none⟩) 1 1) [a] [a] ms (w.alloc (.cells #[.int .i64 a] 3)):=by
  refine ⟨?_,.start (by omega),ho.alloc _,World.grownBy_alloc _ _ _,by omega,by simp;omega,by simp;omega⟩;exact World.ownsRow_lit (base:=w.heap.size) (e := 3) (size:=1) w #[.int .i64 a] 1 (Nat.le_refl _) (by unfold maxLen;omega) (by simp)
 clear hk hg hr hml ho hun
 go_enter Tryz.func151, Tryz.ntmps151
 go_wp2_with fail
 go_loopg [6] (2 * k.ins.length + 1) (fun m td wr=>∃ (xs : List Nat) (ms' : List Bool),Spr w base gm c k.ins.length (nextL k) a ms m td xs xs ms' wr)
 case atStart=>exact ⟨[a],ms,hS⟩
 case round =>
  clear hS;obtain ⟨xs,ms',hS⟩:=hrel;obtain ⟨A,ct,rfl⟩:=own_form hS.todo;rcases nil_or_snoc xs with rfl | ⟨ys,x,rfl⟩
  ·
   go_wp2_with fail
   go_end0
   exact ⟨rfl,ms',hS.srch,hS.marks,hS.grown⟩
  ·
   have e1 : (ys ++ [x]).length = ys.length + 1:=by simp
   have hown:=hS.todo;rw [e1] at hown ⊢;clear e1;obtain ⟨gt,rfl⟩ : ∃ gt,A = some ⟨gt,0,none⟩:=by
    rcases hown.2 with ⟨e,h0⟩ | ⟨g',cap,cur,e,_⟩
    · simp at h0
    · injection e with e;exact ⟨g',e⟩
   have hc:=own_at hown (j:=ys.length) (by omega) (u:=.int .i64 x) (by simp [nv,iv,natI]);have hyl : ys.length ≤ 1501:=by have:=hS.cnt;simp at this;omega
   have hcap:=own_cap hown;have hcap1 : (ys.length : Int) ≤ (ct : Int):=by omega
   have hxl : x < k.ins.length:=by have:=(hS.srch.td x (by simp)).1;rw [hS.len] at this;exact this
   go_wp2_with fail
   refine (HNX.out x hxl _ hS.grown).mono ?_;rintro e w1 ⟨An,cn,rfl,hon,hb1⟩;have hP:=hS.pop.below hb1;have hap : Apart (.slice An (nextL k x).length cn) (.slice (some ⟨gt,0,none⟩) ys.length ct):=fun b h1 h2=>by
    have h3:=(hon.lt b h1).1;have h4:=(hS.pop.todo.lt b h2).2;omega
   have hsz1:=hb1.size;have hszo:=hS.grown.size;clear hS hown hc hcap hcap1 hb1;have HXN:=Lib.hid (fun y (hy : y ∈ nextL k x)=>HR.out x y hxl hy);have HNL:=Lib.hid (nextL_len k x);generalize hns : nextL k x = ns at hon HXN HNL hap ⊢;have HNS:=Lib.hid hns;clear hns;have hnl2:=HNL.out;go_wp2_with fail
   obtain ⟨wo,rfl⟩ : ∃ wo : World,wo = wr:=⟨_,rfl⟩
   obtain ⟨go,rfl⟩ : ∃ go : Nat,go = gk:=⟨_,rfl⟩
   go_loopg [6,30] ns.length (fun l td i wr=>∃ (j : Nat) (xs : List Nat) (ms2 : List Bool),j ≤ ns.length ∧ l = ns.length - j ∧ i = .int .i64 j ∧ Spr w base gm c k.ins.length (nextL k) a ms go td xs (x :: xs) ms2 wr ∧ (∀ y ∈ ns.take j,mkd ms2 y = true) ∧ wr.ownsRow wo.heap.size 3 1 (.slice An ns.length cn) ns.length (nv ns) ∧ Apart (.slice An ns.length cn) td)
   case atStart=>exact ⟨0,ys,ms',by omega,by omega,rfl,hP,by simp,hon,hap⟩
   case round =>
    clear hP hon hap;obtain ⟨j,xs,ms2,hj,rfl,rfl,hP,hall,hon,hap⟩:=hrel;have HALL:=Lib.hid hall;clear hall;obtain ⟨A2,c2,rfl⟩:=own_form hP.todo;by_cases hlt : j < ns.length
    ·
     obtain ⟨ad,rfl,_,hcj⟩:=(own_rd hon).nat hlt;have hyl:=HXN.out ns[j] (List.getElem_mem hlt);have hml:=hP.len;have HML:=Lib.hid hml;have hcm:=own_at hP.marks (j:=ns[j]) hyl (u:=.bool (mkd ms2 ns[j])) (by rw [List.getElem?_map,List.getElem?_eq_getElem (by omega),mkd_get (by omega)];rfl);have HY:=Lib.hid (show ns[j] ∈ nextL k x from by rw [HNS.out];exact List.getElem_mem hlt);have HT:=Lib.hid (fun P=>take_all (P:=P) hlt);clear hml;generalize ns[j] = y at *;have z1 : (0 : Int) ≤ (y : Int):=by omega
     have z2 : (y : Int) < (k.ins.length : Int):=by omega
     cases hmk : mkd ms2 y
     ·
      rw [hmk] at hcm;have HMK:=Lib.hid hmk;clear hmk;have hfz:=hP.marks.frozenAt y;obtain ⟨s0,s1,s2⟩:=hP.mark hyl HMK.out (x:=x) (List.mem_cons_self ..) HY.out;have hsz:=hP.grown.size;have hcn:=hP.cnt;go_wp2_with (at_builtin;refine append_int2 rfl _ _ rfl s0 rfl rfl (by simp) (by omega) (by simpa using hsz) ?_;intro A' c' w2 ho2 hg2 hl2)
      go_roundg (ns.length - (j + 1))
      case measure=>omega
      case rel =>
       have hon1:=hon.kept s2 (.inr (by
        intro h1;have:=(hon.lt gm h1).1;have:=hgm.2;have:=hP.grown.size;omega))
       have hpu:=hP.push hyl HMK.out (x:=x) (List.mem_cons_self ..) HY.out ho2 hg2;refine ⟨j + 1,xs ++ [y],ms2.set y true,by omega,rfl,by go_num,hpu.mono (by omega),HT.out (fun z=>mkd (ms2.set y true) z = true) (fun z hz=>?_) ?_,hon1.kept hg2 hap.kept,?_⟩
       ·
        rw [mkd_set (by have:=HML.out;omega)];split
        · rfl
        · exact HALL.out z hz
       · rw [mkd_set (by have:=HML.out;omega),if_pos rfl]
       ·
        intro b h1 h2;rcases hl2 with h3 | h3
        · rw [h3] at h2;exact hap b h1 h2
        · rw [h3] at h2;have:=(hon.lt b h1).2;injection h2 with h2;simp at h2;omega
     ·
      rw [hmk] at hcm;have HMK:=Lib.hid hmk;clear hmk;go_wp2_with fail
      go_roundg (ns.length - (j + 1))
      case measure=>omega
      case rel=>exact ⟨j + 1,xs,ms2,by omega,rfl,by go_num,hP,HT.out _ HALL.out HMK.out,hon,hap⟩
    ·
     obtain rfl : j = ns.length:=by omega
     go_wp2_with fail
     go_roundg (go - 1)
     case measure=>have:=hP.pos;omega
     case rel =>
      have h1:=HALL.out;rw [List.take_length,← HNS.out] at h1;exact ⟨xs,ms2,hP.done h1⟩
end Go.Proofs.YtkgoajnnkimkaaaGreat
