/- Contracts of the reference's l07Procs, ProcAt, l07Add, l07Unknown for drawn programs. -/
import Derived.Test.YtkgoajnnkimkaaaH14
import Derived.Test.YtkgoajnnkimkaaaH3
set_option linter.unusedSimpArgs false
set_option linter.unusedVariables false
set_option maxRecDepth 100000
set_option maxHeartbeats 16000000
namespace Go.Proofs.Ytkgoajnnkimkaaa
open Go.ChangeShapes Go.WideShapes Go.ChangeAt Go.RowKit
structure PG (nm : List ByteArray) (bs : List (List St)) : Prop where
 n1 : 1 ≤ nm.length
 n4 : nm.length ≤ 4
 sub : ∀ p ∈ nm,p ∈ procL4
 once : twiceB nm = false
 main : mainS ∈ nm
 len : bs.length = nm.length
 good : ∀ b ∈ bs,St.GL nm 2 b ∧ St.cntL b ≤ 54
theorem pg_drawn (s : Cr) : PG (namesD s) (bodiesD s):=by
 obtain ⟨h1,h2,h3⟩:=namesD_cases s;obtain ⟨h4,h5⟩:=bodiesD_good s;have hn:=code_names s;have hp:=namesB_parts hn;exact ⟨by omega,by omega,fun p hp=>List.mem_of_mem_take hp,hp.2.2.2.2.2.1,hp.2.2.2.2.2.2,by omega,h5⟩
def PBox (w : World) (B : Nat) (gA lA pA : Option Addr) (gc lc pc n : Nat) (W : World) : Prop :=
 W.cell? ⟨B,0,none⟩ = some (.slice gA 4 gc) ∧ W.cell? ⟨B,1,none⟩ = some (.slice lA 3 lc) ∧ W.cell? ⟨B,2,none⟩ = some (.slice pA n pc) ∧ Below w.heap.size w W
theorem PBox.to {w W W' : World} {B : Nat} {gA lA pA : Option Addr} {gc lc pc n : Nat} (h : PBox w B gA lA pA gc lc pc n W) (hb : Below W.heap.size W W') : PBox w B gA lA pA gc lc pc n W' :=
 ⟨cell_below hb h.1,cell_below hb h.2.1,cell_below hb h.2.2.1,below_trans' h.2.2.2 hb⟩
theorem pbox (w : World) (gA lA pA : Option Addr) (gc lc pc n : Nat) : PBox w w.heap.size gA lA pA gc lc pc n (w.alloc (.cells #[.slice gA 4 gc,.slice lA 3 lc,.slice pA n pc] 83)):=by
 obtain ⟨p,_⟩:=row_facts (heap_alloc_new w (.cells #[.slice gA 4 gc,.slice lA 3 lc,.slice pA n pc] 83));exact ⟨p 0 _ rfl,p 1 _ rfl,p 2 _ rfl,below_alloc0 _ _⟩
section
variable {gA lA pA : Option Addr} {gc lc pc : Nat} {nm : List ByteArray} {bs : List (List St)}
theorem info_str : (Try.prog.info? 9).map (fun i=>(i.zero,i.size,i.bytes)) = some (some (.string ⟨#[]⟩),1,16):=by kernel_rfl
theorem l07Procs_any (w : World) (hp : ProgAt w gA lA pA nm bs) (hg : PG nm bs) : Calls Try.prog 80 #[.agg #[.slice gA 4 gc,.slice lA 3 lc,.slice pA nm.length pc]] w (NewRow w 9 1 nm.length (nm.map sv)):=by
 have HPB:=Lib.hid (pbox w gA lA pA gc lc pc nm.length);have HP:=Lib.hid (fun V (h : Below w.heap.size w V)=>hp.below h);have hn4:=hg.n4;have HL:=Lib.hid hg.len
 go_enter Try.func80, Try.ntmps80
 go_wp2_with fail
 have hsz : (w.alloc (.cells #[.slice gA 4 gc,.slice lA 3 lc,.slice pA nm.length pc] 83)).heap.size = w.heap.size + 1:=by simp
 generalize w.alloc (.cells #[.slice gA 4 gc,.slice lA 3 lc,.slice pA nm.length pc] 83) = W at HPB hsz ⊢;have hlit:=World.ownsRow_lit (base:=w.heap.size + 1) (e := 9) (size:=1) W #[] 0 (by omega) (by simp) rfl;rw [hsz] at hlit;have hx:=HPB.out.to (below_alloc0 W (.cells #[] 9));generalize W.alloc (.cells #[] 9) = W1 at hlit hx ⊢;have HX:=Lib.hid hx;have HLT:=Lib.hid hlit;clear hlit hx hp HPB hsz;go_loopg [3,4] nm.length (fun l out i wr=>∃ (j : Nat) (A : Option Addr) (c : Nat),j ≤ nm.length ∧ l = nm.length - j ∧ i = .int .i64 j ∧ out = .slice A j c ∧ wr.ownsRow (w.heap.size + 1) 9 1 (.slice A j c) j ((nm.take j).map sv) ∧ PBox w w.heap.size gA lA pA gc lc pc nm.length wr)
 case atStart=>exact ⟨0,_,0,by omega,by omega,rfl,rfl,by simpa using HLT.out,HX.out⟩
 case round =>
  clear HX HLT;obtain ⟨j,A,c,hj,rfl,rfl,rfl,ho,hbx⟩:=hrel;obtain ⟨b0,b1,b2,hbw⟩:=id hbx;have HBX:=Lib.hid hbx;clear hbx;by_cases hlt : j < nm.length
  ·
   have y1 : (j : Int) < (nm.length : Int):=by omega
   have y2 : (0 : Int) ≤ (j : Int):=by omega
   obtain ⟨ad,bv,m,n,rfl,q1,q2,q3,_⟩:=(HP.out wr hbw).p j hlt (by rw [HL.out];exact hlt);have hsw:=hbw.size;have hsw1 : w.heap.size + 1 ≤ wr.heap.size:=World.block_lt_of_cell? wr _ b0;clear q3 hbw;go_wp2_with (at_builtin;refine append_cells Try.underlying41 info_str rfl (by omega) (by omega) rfl _ _ rfl [.string nm[j]] ho rfl rfl rfl (by simp [Value.oneCell']) (by omega) (by omega) ?_;intro A4 c4 w4 ho4 hg4 hv4)
   have hF : Fr (fun b=>(Value.slice A j c).ownBlock = some b) wr w4:=(Fr.refl _ wr).grown hg4 (fun b e _=>e);have hOB : ∀ b,(Value.slice A j c).ownBlock = some b → w.heap.size + 1 ≤ b:=fun b e=>(ho.lt b e).1;have e0:=hF.cell b0 (fun e=>by have:=hOB _ e;simp only at this;omega);have e1:=hF.cell b1 (fun e=>by have:=hOB _ e;simp only at this;omega);have e2:=hF.cell b2 (fun e=>by have:=hOB _ e;simp only at this;omega);have hx4 : PBox w w.heap.size gA lA _ gc lc pc nm.length w4:=⟨e0,e1,e2,HBX.out.2.2.2.grown hg4 (by omega) (fun b e=>by have:=hOB b e;omega)⟩
   go_roundg (nm.length - (j + 1))
   case measure=>omega
   case rel=>exact ⟨j + 1,A4,c4,by omega,rfl,by go_num,rfl,by rw [List.take_succ_eq_append_getElem hlt,List.map_append];exact ho4,hx4⟩
  ·
   obtain rfl : j = nm.length:=by omega
   have HO:=Lib.hid ho;clear ho;go_wp2_with fail
   go_ret
   exact ⟨A,c,rfl,by have:=HO.out;rw [List.take_of_length_le (Nat.le_refl _)] at this;exact own_mono this (by omega),hbw⟩
theorem procAt_any (w : World) (hp : ProgAt w gA lA pA nm bs) (hg : PG nm bs) (x : ByteArray) : Calls Try.prog 82 #[.agg #[.slice gA 4 gc,.slice lA 3 lc,.slice pA nm.length pc],.string x] w fun e w'=>e = .returned (.int .i64 (placeOf nm x)) ∧ Below w.heap.size w w':=by
 have HPB:=Lib.hid (pbox w gA lA pA gc lc pc nm.length);have HP:=Lib.hid (fun V (h : Below w.heap.size w V)=>hp.below h);have hn4:=hg.n4;have HL:=Lib.hid hg.len;obtain ⟨b0,b1,b2,hbw⟩:=id HPB.out;clear hp
 go_enter Try.func82, Try.ntmps82
 go_wp2_with fail
 generalize w.alloc (.cells #[.slice gA 4 gc,.slice lA 3 lc,.slice pA nm.length pc] 83) = W at HPB b0 b1 b2 hbw ⊢;go_loopg [5] nm.length (fun l i wr=>∃ (j : Nat),j ≤ nm.length ∧ l = nm.length - j ∧ i = .int .i64 j ∧ x ∉ nm.take j ∧ wr = W)
 case atStart=>exact ⟨0,by omega,by omega,rfl,by simp,rfl⟩
 case round =>
  obtain ⟨j,hj,rfl,rfl,hno,rfl⟩:=hrel;have HNO:=Lib.hid hno;clear hno;by_cases hlt : j < nm.length
  ·
   have y1 : (j : Int) < (nm.length : Int):=by omega
   have y2 : (0 : Int) ≤ (j : Int):=by omega
   obtain ⟨ad,bv,m,n,rfl,q1,q2,q3,_⟩:=(HP.out _ hbw).p j hlt (by rw [HL.out];exact hlt);by_cases hx : nm[j] = x
   ·
    have HF:=Lib.hid (placeOf_at hlt hx HNO.out);have hxx : (nm[j].toList == x.toList) = true:=by rw [hx];simp
    clear hx q3;go_wp2_with fail
    go_ret
    exact ⟨ret_int HF.out.symm,hbw⟩
   ·
    have HF:=Lib.hid (not_mem_take_succ hlt HNO.out hx);have hxx : (nm[j].toList == x.toList) = false:=by rw [str_beq,decide_eq_false hx]
    clear hx q3;go_wp2_with fail
    go_roundg (nm.length - (j + 1))
    case measure=>omega
    case rel=>exact ⟨j + 1,by omega,rfl,by go_num,HF.out,rfl⟩
  ·
   have HF:=Lib.hid (show placeOf nm x = -1 from placeOf_none (by have:=HNO.out;rwa [List.take_of_length_le (by omega)] at this));obtain rfl : j = nm.length:=by omega
   go_wp2_with fail
   go_ret
   exact ⟨ret_int HF.out.symm,hbw⟩
end
theorem l07Add_any {B : Nat} (ss : List ByteArray) (A : Option Addr) (c : Nat) (out : Value) (t : ByteArray) (w : World) (h : Rd w B A (ss.map sv)) (hn : ss.length ≤ 1099511627776) (ht : t ∈ ss) :
  Calls Try.prog 109 #[out,.slice A ss.length c,.string t] w fun e w'=>e = .returned out ∧ w' = w:=by
 have hh:=l04Has_any A c ss t w h hn;rw [decide_eq_true ht] at hh;have HH:=Lib.hid hh;clear hh h
 go_enter Try.func109, Try.ntmps109
 go_wp2_with fail
 refine HH.out.mono ?_;rintro e w1 ⟨rfl,rfl⟩;go_wp2_with fail
 go_ret
 exact ⟨rfl,rfl⟩
end Go.Proofs.Ytkgoajnnkimkaaa
