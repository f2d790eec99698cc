/- Contracts of the reference's cursor: l01Byte, l01Below, l01Once, l01Pick, l01PickInt. -/
import Derived.Test.YtkgoajnnkimkaaaH2
import Derived.Test.YtkgoajnnkimkaaaB3
set_option linter.unusedSimpArgs false
set_option linter.unusedVariables false
set_option maxRecDepth 100000
set_option maxHeartbeats 16000000
namespace Go.Proofs.Ytkgoajnnkimkaaa
open Go.ChangeShapes Go.WideShapes Go.ChangeAt Go.RowKit
theorem grownSet (w : World) (a : Addr) (x : Value) : w.grownBy (w.setCell a x) (some a.block) :=
 ⟨rfl,rfl,rfl,by rw [World.size_setCell];exact Nat.le_refl _,fun b _ h=>Below.heap_setCell w a x b (by simpa [eq_comm] using h)⟩
structure Fr (S : Nat → Prop) (w w' : World) : Prop where
 os : w'.os = w.os
 tape : w'.tape = w.tape
 output : w'.output = w.output
 size : w.heap.size ≤ w'.heap.size
 block : ∀ b,b < w.heap.size → ¬ S b → w'.heap[b]? = w.heap[b]?
section
variable {S T : Nat → Prop} {w w1 w2 : World}
theorem Fr.refl (S : Nat → Prop) (w : World) : Fr S w w:=⟨rfl,rfl,rfl,Nat.le_refl _,fun _ _ _=>rfl⟩
theorem Fr.trans (h : Fr S w w1) (k : Fr S w1 w2) : Fr S w w2 :=
 ⟨k.os.trans h.os,k.tape.trans h.tape,k.output.trans h.output,Nat.le_trans h.size k.size,fun b hb h1=>(k.block b (Nat.lt_of_lt_of_le hb h.size) h1).trans (h.block b hb h1)⟩
theorem Fr.mono (h : Fr S w w1) (k : ∀ b,b < w.heap.size → S b → T b) : Fr T w w1:=⟨h.os,h.tape,h.output,h.size,fun b hb h1=>h.block b hb fun h2=>h1 (k b hb h2)⟩
theorem Fr.of_below (h : Below w.heap.size w w1) : Fr S w w1:=⟨h.os,h.tape,h.output,h.size,fun b hb _=>h.block b hb⟩
theorem Fr.drew (h : Fr S w w1) : Fr S w w1.drew:=⟨h.os,h.tape,h.output,h.size,h.block⟩
theorem Fr.drewN (h : Fr S w w1) (n : Nat) : Fr S w (w1.drewN n):=⟨h.os,h.tape,h.output,h.size,h.block⟩
theorem Fr.alloc (h : Fr S w w1) (o : Obj) : Fr S w (w1.alloc o):=h.trans (.of_below (below_alloc0 w1 o))
theorem Fr.set (h : Fr S w w1) {a : Addr} (ha : a.block < w.heap.size → S a.block) (x : Value) : Fr S w (w1.setCell a x) :=
 ⟨(grownSet w1 a x).os.trans h.os,(grownSet w1 a x).tape.trans h.tape,(grownSet w1 a x).output.trans h.output,Nat.le_trans h.size (grownSet w1 a x).size,
  fun b hb h1=>((grownSet w1 a x).block b (Nat.lt_of_lt_of_le hb h.size) fun e=>h1 (by injection e with e;rw [e];exact ha (by rw [← e];exact hb))).trans (h.block b hb h1)⟩
theorem Fr.grown (h : Fr S w w1) {row : Option Nat} (g : w1.grownBy w2 row) (hr : ∀ b,row = some b → b < w.heap.size → S b) : Fr S w w2 :=
 ⟨g.os.trans h.os,g.tape.trans h.tape,g.output.trans h.output,Nat.le_trans h.size g.size,fun b hb h1=>(g.block b (Nat.lt_of_lt_of_le hb h.size) fun e=>h1 (hr b e.symm hb)).trans (h.block b hb h1)⟩
theorem Fr.below (h : Fr S w w1) {B : Nat} (h0 : B ≤ w.heap.size) (h1 : ∀ b,b < B → ¬ S b) : Below B w w1:=⟨h.os,h.tape,h.output,h.size,fun b hb=>h.block b (by omega) (h1 b hb)⟩
theorem Fr.own (h : Fr S w w1) {base : Nat} {t : TypeId} {size n : Nat} {v : Value} {xs : List Value} (ho : w.ownsRow base t size v n xs) (h1 : ∀ b,v.ownBlock = some b → ¬ S b) : w1.ownsRow base t size v n xs:=by
 refine ⟨ho.1,?_⟩;rcases ho.2 with h0 | ⟨b,cap,cur,e,hb,hh,r⟩
 · exact .inl h0
 · exact .inr ⟨b,cap,cur,e,hb,(h.block b (Array.getElem?_eq_some_iff.1 hh).1 (h1 b (by rw [e];rfl))).trans hh,r⟩
end
def bytesV (b : List UInt8) : List Value:=b.map fun x=>.int .u8 ((x.toNat : Nat) : Int)
def CurAt (w : World) (g : Nat) (s : Cr) : Prop :=
 (∃ A c,w.heap[g]? = some (.cells #[.slice A s.b.length c,.int .i64 s.i,.int .i64 s.h] 71) ∧ Rd w g A (bytesV s.b)) ∧ s.i ≤ s.b.length ∧ s.b.length ≤ 1048576
theorem CurAt.lt {w : World} {g : Nat} {s : Cr} (h : CurAt w g s) : g < w.heap.size:=by
 obtain ⟨⟨A,c,h,_⟩,_⟩:=h;exact (Array.getElem?_eq_some_iff.1 h).1
theorem CurAt.fr {S : Nat → Prop} {w w' : World} {g : Nat} {s : Cr} (h : CurAt w g s) (hf : Fr S w w') (hS : ∀ b,b ≤ g → ¬ S b) : CurAt w' g s:=by
 have hl:=h.lt;obtain ⟨⟨A,c,h1,h2⟩,h3,h4⟩:=h;exact ⟨⟨A,c,(hf.block g hl (hS g (Nat.le_refl _))).trans h1,h2.below (hf.below (by omega) fun b hb=>hS b (by omega))⟩,h3,h4⟩
theorem CurAt.below {w w' : World} {g : Nat} {s : Cr} (h : CurAt w g s) (hb : Below w.heap.size w w') : CurAt w' g s :=
 h.fr (S:=fun _=>False) (Fr.of_below hb) (fun _ _ h=>h)
def Went (w : World) (g : Nat) (s : Cr) (w' : World) : Prop:=CurAt w' g s ∧ Fr (· = g) w w'
theorem Went.trans {w w1 w2 : World} {g : Nat} {s t : Cr} (h : Went w g s w1) (k : Went w1 g t w2) : Went w g t w2:=⟨k.1,h.2.trans k.2⟩
theorem cur_set {w : World} {g : Nat} {x y z : Value} (hb : w.heap[g]? = some (.cells #[x,y,z] 71)) (u : Value) : (w.setCell ⟨g,2,none⟩ u).heap[g]? = some (.cells #[x,y,u] 71):=by
 have:=set_row hb 2 u;simpa using this
theorem cur_set1 {w : World} {g : Nat} {x y z : Value} (hb : w.heap[g]? = some (.cells #[x,y,z] 71)) (u : Value) : (w.setCell ⟨g,1,none⟩ u).heap[g]? = some (.cells #[x,u,z] 71):=by
 have:=set_row hb 1 u;simpa using this
theorem byteD_yes {s : Cr} (h : s.i < s.b.length) : byteD s = ((bits .and .i64 (wrap64 (mixH (nextH s.h) + wrap64 ((s.b[s.i].toNat : Nat) : Int))) 255).toNat,⟨s.b,s.i + 1,nextH s.h⟩):=dif_pos h
theorem byteD_no {s : Cr} (h : ¬ s.i < s.b.length) : byteD s = ((mixH (nextH s.h)).toNat,⟨s.b,s.i,nextH s.h⟩):=dif_neg h
theorem l01Byte_any (g : Nat) (s : Cr) (w : World) (hc : CurAt w g s) :
  Calls Try.prog 35 #[.pointer (some ⟨g,0,none⟩)] w fun e w'=>e = .returned (.int .i64 (((byteD s).1 : Nat) : Int)) ∧ Went w g (byteD s).2 w':=by
 have hgl:=hc.lt;obtain ⟨⟨A,c,hb,hrd⟩,hi,hn⟩:=hc;obtain ⟨p,q⟩:=row_facts hb;have c0 : w.cell? ⟨g,0,none⟩ = some (.slice A s.b.length c):=p 0 _ rfl;have c1 : w.cell? ⟨g,1,none⟩ = some (.int .i64 s.i):=p 1 _ rfl;have c2 : w.cell? ⟨g,2,none⟩ = some (.int .i64 s.h):=p 2 _ rfl;have f2:=q 2;clear p q;have HB:=Lib.hid hb;have HG:=Lib.hid hgl;clear hb
 go_enter Try.func35, Try.ntmps35
 go_wp2_with fail
 have hb1:=cur_set HB.out (.int .i64 (nextH s.h));have hF1 : Fr (· = g) w (w.setCell ⟨g,2,none⟩ (.int .i64 (nextH s.h))):=Fr.set (S:=(· = g)) (Fr.refl _ w) (a:=⟨g,2,none⟩) (fun _=>rfl) _;have hrd1:=hrd.below (hF1.below (B:=g) (Nat.le_of_lt HG.out) (fun b h e=>absurd e (Nat.ne_of_lt h)))
 change Code.wp _ _ _ _ (w.setCell ⟨g,2,none⟩ (.int .i64 (nextH s.h)))
 generalize w.setCell ⟨g,2,none⟩ (.int .i64 (nextH s.h)) = W at hb1 hF1 hrd1 ⊢;clear c0 c1 c2 f2 hrd;obtain ⟨p,q⟩:=row_facts hb1;have c0 : W.cell? ⟨g,0,none⟩ = some (.slice A s.b.length c):=p 0 _ rfl;have c1 : W.cell? ⟨g,1,none⟩ = some (.int .i64 s.i):=p 1 _ rfl;have c2 : W.cell? ⟨g,2,none⟩ = some (.int .i64 (nextH s.h)):=p 2 _ rfl;have f1:=q 1;clear p q;have HB1:=Lib.hid hb1;have HF1:=Lib.hid hF1;have HR1:=Lib.hid hrd1;clear hb1 hF1;clear hgl;have hH : nextH s.h / 8589934592 = nextH s.h / 8589934592:=rfl;by_cases hlt : s.i < s.b.length
 ·
  have HY:=Lib.hid (byteD_yes hlt);obtain ⟨ad,rfl,hbl,hcb⟩:=hrd1 s.i (.int .u8 ((s.b[s.i].toNat : Nat) : Int)) (by simp [bytesV,hlt]);have z1 : (0 : Int) ≤ (s.i : Int):=by omega
  have z2 : (s.i : Int) < (s.b.length : Int):=by omega
  clear hrd1 hH;go_quiet (fail)
  go_wp2
  go_quiet (fail)
  go_wp2
  go_quiet (fail)
  go_wp2
  go_ret
  rw [HY.out];refine ⟨congrArg Ending.returned (congrArg (Value.int .i64) (Int.toNat_of_nonneg (and255 _).1).symm),?_,?_⟩
  · exact ⟨⟨_,_,cur_set1 HB1.out _,(HR1.out.drewN _).below ((Below.refl g _).setCell (show g ≤ (⟨g,1,none⟩ : Addr).block from Nat.le_refl g) _)⟩,hlt,hn⟩
  · exact (HF1.out.drewN _).set (fun _=>rfl) _
 ·
  have HN:=Lib.hid (byteD_no hlt);clear hrd1 hH;go_quiet (fail)
  go_wp2
  go_quiet (fail)
  go_wp2
  go_ret
  rw [HN.out];refine ⟨congrArg Ending.returned (congrArg (Value.int .i64) (Int.toNat_of_nonneg (and255 _).1).symm),?_,?_⟩
  · exact ⟨⟨_,_,HB1.out,HR1.out⟩,hi,hn⟩
  · exact (HF1.out.drewN _).drewN _
theorem l01Below_any (n : Nat) (g : Nat) (s : Cr) (w : World) (hc : CurAt w g s) (h1 : 1 ≤ n) (h2 : n ≤ 256) :
  Calls Try.prog 36 #[.pointer (some ⟨g,0,none⟩),.int .i64 (n : Int)] w fun e w'=>e = .returned (.int .i64 (((belowD n s).1 : Nat) : Int)) ∧ Went w g (belowD n s).2 w':=by
 have HB:=Lib.hid (l01Byte_any g s w hc);have z1 : ¬ ((n : Int) ≤ 0):=by omega
 have z2 : (n : Int) ≤ 256:=by omega
 have z3 : (n : Int) ≠ 0:=by omega
 clear hc
 go_enter Try.func36, Try.ntmps36
 go_wp2_with fail
 refine HB.out.mono ?_;rintro e w1 ⟨rfl,hw⟩;go_wp2_with fail
 go_ret
 exact ⟨congrArg Ending.returned (congrArg (Value.int .i64) (by unfold belowD;push_cast;rfl)),hw⟩
theorem cast_four (a b c d n : Nat) : ((a : Int) * 16777216 + (b : Int) * 65536 + (c : Int) * 256 + (d : Int)) % (n : Int) = (((a * 16777216 + b * 65536 + c * 256 + d) % n : Nat) : Int):=by
 have e : (a : Int) * 16777216 + (b : Int) * 65536 + (c : Int) * 256 + (d : Int) = ((a * 16777216 + b * 65536 + c * 256 + d : Nat) : Int):=by omega
 rw [e];rfl
theorem l01Below_big (n : Nat) (g : Nat) (s : Cr) (w : World) (hc : CurAt w g s) (h1 : 257 ≤ n) (h2 : n ≤ 1000000000) :
  Calls Try.prog 36 #[.pointer (some ⟨g,0,none⟩),.int .i64 (n : Int)] w fun e w'=>e = .returned (.int .i64 (((bigD n s).1 : Nat) : Int)) ∧ Went w g (bigD n s).2 w':=by
 have HB:=Lib.hid (fun s w (hc : CurAt w g s)=>l01Byte_any g s w hc);have HE:=Lib.hid (show bigD n s = (((byteD s).1 * 16777216 + (byteD (byteD s).2).1 * 65536 + (byteD (byteD (byteD s).2).2).1 * 256 + (byteD (byteD (byteD (byteD s).2).2).2).1) % n,(byteD (byteD (byteD (byteD s).2).2).2).2) from rfl);have l1:=byteD_lt s;have l2:=byteD_lt (byteD s).2;have l3:=byteD_lt (byteD (byteD s).2).2;have l4:=byteD_lt (byteD (byteD (byteD s).2).2).2;have z1 : ¬ ((n : Int) ≤ 0):=by omega
 have z2 : ¬ (n : Int) ≤ 256:=by omega
 have z3 : (n : Int) ≠ 0:=by omega
 go_enter Try.func36, Try.ntmps36
 go_wp2_with fail
 refine (HB.out s w hc).mono ?_;rintro e w1 ⟨rfl,hw1⟩;go_wp2_with fail
 refine (HB.out _ w1 hw1.1).mono ?_;rintro e w2 ⟨rfl,hw2⟩;go_wp2_with fail
 refine (HB.out _ w2 hw2.1).mono ?_;rintro e w3 ⟨rfl,hw3⟩;go_wp2_with fail
 refine (HB.out _ w3 hw3.1).mono ?_;rintro e w4 ⟨rfl,hw4⟩;go_wp2_with fail
 go_ret
 rw [HE.out];exact ⟨congrArg Ending.returned (congrArg (Value.int .i64) (cast_four _ _ _ _ n)),((hw1.trans hw2).trans hw3).trans hw4⟩
theorem Rd.fr {S : Nat → Prop} {w w' : World} {B : Nat} {A : Option Addr} {xs : List Value} (h : Rd w B A xs) (hf : Fr S w w') (hS : ∀ ad,A = some ad → ¬ S ad.block) : Rd w' B A xs:=fun j u hu=>by
 obtain ⟨ad,e,hb,hc⟩:=h j u hu;have hl:=World.block_lt_of_cell? w _ hc;refine ⟨ad,e,hb,?_⟩;rw [block_of_add] at hl;rw [← hc];exact World.cell?_of_block (w:=w) (a:=ad.add j) (by rw [block_of_add];exact hf.block _ hl (hS ad e))
theorem l01Pick_any {B : Nat} (xs : List ByteArray) (A : Option Addr) (c : Nat) (g : Nat) (s : Cr) (w : World) (hc : CurAt w g s) (hr : Rd w B A (xs.map sv)) (hne : ∀ ad, A = some ad → ad.block ≠ g) (h1 : 1 ≤ xs.length) (h2 : xs.length ≤ 256) :
  Calls Try.prog 86 #[.pointer (some ⟨g,0,none⟩),.slice A xs.length c] w fun e w'=>e = .returned (.string (pickD xs s).1) ∧ Went w g (pickD xs s).2 w':=by
 have HB:=Lib.hid (l01Below_any xs.length g s w hc h1 h2);have hlt:=belowD_lt s h1;have HP:=Lib.hid (show (pickD xs s).1 = xs[(belowD xs.length s).1] from by
  show (xs[(belowD xs.length s).1]?).getD ⟨#[]⟩ = _
  rw [List.getElem?_eq_getElem hlt];rfl)
 clear hc
 go_enter Try.func86, Try.ntmps86
 go_wp2_with fail
 refine HB.out.mono ?_;rintro e w1 ⟨rfl,hw⟩;obtain ⟨ad,rfl,_,hcell⟩:=(hr.fr hw.2 hne).str hlt;have z1 : (0 : Int) ≤ ((belowD xs.length s).1 : Int):=by omega
 have z2 : ((belowD xs.length s).1 : Int) < (xs.length : Int):=by omega
 go_wp2_with fail
 go_ret
 rw [HP.out];exact ⟨rfl,hw⟩
theorem l01PickInt_any {B : Nat} (xs : List Int) (A : Option Addr) (c : Nat) (g : Nat) (s : Cr) (w : World) (hc : CurAt w g s) (hr : Rd w B A (xs.map iv)) (hne : ∀ ad, A = some ad → ad.block ≠ g) (h1 : 1 ≤ xs.length) (h2 : xs.length ≤ 256) :
  Calls Try.prog 111 #[.pointer (some ⟨g,0,none⟩),.slice A xs.length c] w fun e w'=>e = .returned (.int .i64 (pickI xs s).1) ∧ Went w g (pickI xs s).2 w':=by
 have HB:=Lib.hid (l01Below_any xs.length g s w hc h1 h2);have hlt:=belowD_lt s h1;have HP:=Lib.hid (show (pickI xs s).1 = xs[(belowD xs.length s).1] from by
  show (xs[(belowD xs.length s).1]?).getD 0 = _
  rw [List.getElem?_eq_getElem hlt];rfl)
 clear hc
 go_enter Try.func111, Try.ntmps111
 go_wp2_with fail
 refine HB.out.mono ?_;rintro e w1 ⟨rfl,hw⟩;obtain ⟨ad,rfl,_,hcell⟩:=(hr.fr hw.2 hne).int hlt;have z1 : (0 : Int) ≤ ((belowD xs.length s).1 : Int):=by omega
 have z2 : ((belowD xs.length s).1 : Int) < (xs.length : Int):=by omega
 go_wp2_with fail
 go_ret
 rw [HP.out];exact ⟨rfl,hw⟩
theorem l01Once_any (n : Nat) (g : Nat) (s : Cr) (w : World) (hc : CurAt w g s) (h1 : 1 ≤ n) (h2 : n ≤ 256) :
  Calls Try.prog 64 #[.pointer (some ⟨g,0,none⟩),.int .i64 (n : Int)] w fun e w'=>e = .returned (.bool (decide ((belowD n s).1 = 0))) ∧ Went w g (belowD n s).2 w':=by
 have HB:=Lib.hid (l01Below_any n g s w hc h1 h2);clear hc
 go_enter Try.func64, Try.ntmps64
 go_wp2_with fail
 refine HB.out.mono ?_;rintro e w1 ⟨rfl,hw⟩;go_wp2_with fail
 go_ret
 exact ⟨ret_bool (by rw [int_beq_zero]),hw⟩
end Go.Proofs.Ytkgoajnnkimkaaa
