/- Effects in memory, and the law helpers over lists of them. -/
import Derived.Test.YtkgoajnnkimkaaaGreatA5
import Derived.Carry
import Derived.ChangeSame
import Derived.ChangeSlices
import Derived.Deep.RegionHeld3
import Derived.Deep.Strs
import Derived.Laws.Rows
import Derived.Lib.SmallJoins
set_option linter.unusedSimpArgs false
set_option linter.unusedVariables false
set_option maxRecDepth 100000
set_option maxHeartbeats 16000000
namespace Go.Proofs.YtkgoajnnkimkaaaGreat
open Go.ChangeShapes Go.WideShapes Go.ChangeAt Go.RowKit
def effCells : List (Int × Int) → List Value
 | []=>[]
 | e :: r=>iv e.1 :: iv e.2 :: effCells r
theorem effCells_keep : ∀ (es : List (Int × Int)) (i : Nat) (h : i < es.length),(effCells es)[i * 2]? = some (iv es[i].1)
 | e :: r,0,_=>rfl
 | e :: r,i + 1,h=>by
  have:=effCells_keep r i (by simpa using h);rw [Nat.add_mul];simpa [effCells] using this
theorem effCells_gen : ∀ (es : List (Int × Int)) (i : Nat) (h : i < es.length),(effCells es)[i * 2 + 1]? = some (iv es[i].2)
 | e :: r,0,_=>rfl
 | e :: r,i + 1,h=>by
  have:=effCells_gen r i (by simpa using h);have e : (i + 1) * 2 + 1 = (i * 2 + 1) + 1 + 1:=by omega
  rw [e];simpa [effCells] using this
theorem Rd.eff {w : World} {B : Nat} {A : Option Addr} {es : List (Int × Int)} (h : Rd w B A (effCells es)) {i : Nat} (hi : i < es.length) : ∃ ad, A = some ad ∧ (ad.add (i * 2)).block < B ∧
  w.cell? (ad.add (i * 2)) = some (.int .i64 es[i].1) ∧ w.cell? ⟨(ad.add (i * 2)).block,(ad.add (i * 2)).off + 1,none⟩ = some (.int .i64 es[i].2):=by
 obtain ⟨ad,rfl,hb,c0⟩:=h _ _ (effCells_keep es i hi);obtain ⟨ad',e',_,c1⟩:=h _ _ (effCells_gen es i hi);cases e'
 rw [add_pos_eq _ _ 1 (by omega)] at c1;exact ⟨ad,rfl,by rw [block_of_add];exact hb,c0,c1⟩
theorem info_eff : (Tryz.prog.info? 39).map (fun i=>(i.zero,i.size,i.bytes)) = some (some (.agg #[.int .i64 0,.int .i64 0]),2,16):=by kernel_rfl
end Go.Proofs.YtkgoajnnkimkaaaGreat
namespace Go.Proofs.YtkgoajnnkimkaaaGreat
open Go.ChangeShapes Go.WideShapes Go.ChangeAt Go.RowKit
end Go.Proofs.YtkgoajnnkimkaaaGreat
namespace Go.Proofs.YtkgoajnnkimkaaaGreat
open Go.ChangeShapes Go.WideShapes Go.ChangeAt Go.RowKit
def effB (e : Int × Int) : Bool:=isSetB e.1 && isSetB e.2
def keepAt (es : List (Int × Int)) (a : Nat) : Nat:=((es[a]?).map fun e=>e.1.toNat).getD 0
def genAt (es : List (Int × Int)) (a : Nat) : Nat:=((es[a]?).map fun e=>e.2.toNat).getD 0
def movedV (op : Int) (arg : Nat) (es : List (Int × Int)) (held : Nat) : Nat :=
 if op = 6 then held ||| 2 ^ arg else if op = 7 then andNot held (2 ^ arg) else if op = 4 then (held &&& keepAt es arg) ||| genAt es arg else held
theorem behind_any {B : Nat} (op arg : Int) (n : Nat) (t : Tm) (to : Int) (Ak A : Option Addr) (ck c : Nat) (es : List (Int × Int)) (held : Nat) (w : World) (hk : Rd w B A (effCells es)) (hn : es.length ≤ 1048576)
  (hes : ∀ e ∈ es,effB e = true) (hh : held < 64) (ha : arg = n) (h67 : op = 6 ∨ op = 7 → n < 6) (h4 : op = 4 → n < es.length) :
  Calls Tryz.prog 96 #[.agg #[.int .i64 op,.int .i64 arg,.int .i64 t.kind,.int .i64 t.num,.string t.name,.slice Ak t.kids.length ck,.int .i64 to],.slice A es.length c,.int .i64 held] w fun e w'=>e = .returned (.int .i64 (movedV op n es held : Nat)) ∧ Below w.heap.size w w':=by
 subst ha;have hcase : op = 6 ∨ op = 7 ∨ op = 4 ∨ (op ≠ 6 ∧ op ≠ 7 ∧ op ≠ 4):=by omega
 rcases hcase with rfl | rfl | rfl | ⟨h6,h7,h4'⟩
 ·
  have hn6:=h67 (.inl rfl);have e:=or_bit64 held n (by omega) (by omega)
  go_enter Tryz.func96, Tryz.ntmps96
  go_wp2
  go_ret
  refine ⟨ret_int ?_,below_alloc0 _ _⟩;rw [shl_one n (by omega),← two_pow_cast];simpa [movedV] using e
 ·
  have hn6:=h67 (.inr rfl);have e:=andNot_bit64 held n (by omega) (by omega)
  go_enter Tryz.func96, Tryz.ntmps96
  go_wp2
  go_ret
  refine ⟨ret_int ?_,below_alloc0 _ _⟩;rw [shl_one n (by omega),← two_pow_cast];simpa [movedV] using e
 ·
  have hnl:=h4 rfl;obtain ⟨ad,rfl,hbl,k0,k1⟩:=(hk.full.below (below_alloc0 w (.cells #[.int .i64 4,.int .i64 n,.int .i64 t.kind,.int .i64 t.num,.string t.name,.slice Ak t.kids.length ck,.int .i64 to] 52))).eff hnl;have z1 : (0 : Int) ≤ (n : Int):=by omega
  have z2 : (n : Int) < (es.length : Int):=by omega
  have hE:=hes _ (List.getElem_mem hnl);simp only [effB,Bool.and_eq_true] at hE;obtain ⟨a,ea,ha⟩:=isSetB_nat hE.1;obtain ⟨b,eb,hb⟩:=isSetB_nat hE.2;rw [ea] at k0;rw [eb] at k1;have HM:=Lib.hid (show movedV 4 n es held = (held &&& a) ||| b from by simp [movedV,keepAt,genAt,hnl,ea,eb]);have e1:=i64_and_nat held a (by omega) (by omega);have hle : held &&& a ≤ held:=Nat.and_le_left;have e2:=i64_or_nat (held &&& a) b (by omega) (by omega);clear ea eb hE
  go_enter Tryz.func96, Tryz.ntmps96
  go_wp2
  go_quiet (fail)
  go_wp2
  go_ret
  refine ⟨ret_int ?_,below_drewN (below_alloc0 _ _) _⟩;rw [HM.out]
 ·
  have e6 : (op == 6) = false:=by simpa using h6
  have e7 : (op == 7) = false:=by simpa using h7
  have e4 : (op == 4) = false:=by simpa using h4'
  have HM:=Lib.hid (show movedV op n es held = held from by simp [movedV,h6,h7,h4']);clear h6 h7 h4' h67 h4
  go_enter Tryz.func96, Tryz.ntmps96
  go_wp2
  go_ret
  exact ⟨ret_int (by rw [HM.out]),below_alloc0 _ _⟩
theorem l13Moved_any {B : Nat} (op arg : Int) (n : Nat) (t : Tm) (to : Int) (Ak A : Option Addr) (ck c : Nat) (es : List (Int × Int)) (held : Nat) (w : World) (hk : Rd w B A (effCells es)) (hn : es.length ≤ 1048576)
  (hes : ∀ e ∈ es,effB e = true) (hh : held < 64) (ha : arg = n) (h67 : op = 6 ∨ op = 7 → n < 6) (h4 : op = 4 → n < es.length) :
  Calls Tryz.prog 100 #[.agg #[.int .i64 op,.int .i64 arg,.int .i64 t.kind,.int .i64 t.num,.string t.name,.slice Ak t.kids.length ck,.int .i64 to],.slice A es.length c,.int .i64 held] w fun e w'=>e = .returned (.int .i64 (movedV op n es held : Nat)) ∧ Below w.heap.size w w':=by
 subst ha;have hcase : op = 6 ∨ op = 7 ∨ op = 4 ∨ (op ≠ 6 ∧ op ≠ 7 ∧ op ≠ 4):=by omega
 rcases hcase with rfl | rfl | rfl | ⟨h6,h7,h4'⟩
 ·
  have hn6:=h67 (.inl rfl);have e:=i64_or_nat held (2 ^ n) (by omega) (two_pow_lt n (by omega))
  go_enter Tryz.func100, Tryz.ntmps100
  go_wp2_with fail
  refine (l12Bit_any n _ (by omega)).mono ?_;rintro r w' ⟨rfl,rfl⟩;go_wp2_with fail
  go_ret
  refine ⟨ret_int ?_,below_alloc0 _ _⟩;simpa [movedV] using e
 ·
  have hn6:=h67 (.inr rfl);have h2 : 2 ^ n < 64:=(Nat.pow_lt_pow_right (by omega) hn6 : 2 ^ n < 2 ^ 6)
  have HM:=Lib.hid (show withoutV (held : Int) ((2 ^ n : Nat) : Int) = (movedV 7 n es held : Nat) from by
   simp only [withoutV,isSetB_of_nat hh,isSetB_of_nat h2,Bool.and_self,if_true,Int.toNat_natCast];rfl)
  go_enter Tryz.func100, Tryz.ntmps100
  go_wp2_with fail
  refine (l12Bit_any n _ (by omega)).mono ?_;rintro r w' ⟨rfl,rfl⟩;go_wp2_with fail
  refine (without_s _ _ _).mono ?_;rintro r w' ⟨rfl,rfl⟩;go_wp2_with fail
  go_ret
  exact ⟨ret_int HM.out,below_alloc0 _ _⟩
 ·
  have hnl:=h4 rfl;obtain ⟨ad,rfl,hbl,k0,k1⟩:=(hk.full.below (below_alloc0 w (.cells #[.int .i64 4,.int .i64 n,.int .i64 t.kind,.int .i64 t.num,.string t.name,.slice Ak t.kids.length ck,.int .i64 to] 52))).eff hnl;have z1 : (0 : Int) ≤ (n : Int):=by omega
  have z2 : (n : Int) < (es.length : Int):=by omega
  have hE:=hes _ (List.getElem_mem hnl);simp only [effB,Bool.and_eq_true] at hE;obtain ⟨a,ea,ha⟩:=isSetB_nat hE.1;obtain ⟨b,eb,hb⟩:=isSetB_nat hE.2;rw [ea] at k0;rw [eb] at k1;have HM:=Lib.hid (show movedV 4 n es held = (held &&& a) ||| b from by simp [movedV,keepAt,genAt,hnl,ea,eb]);have e1:=i64_and_nat held a (by omega) (by omega);have hle : held &&& a ≤ held:=Nat.and_le_left;have e2:=i64_or_nat (held &&& a) b (by omega) (by omega);clear ea eb hE
  go_enter Tryz.func100, Tryz.ntmps100
  go_wp2
  go_quiet (fail)
  go_wp2
  go_ret
  refine ⟨ret_int ?_,below_drewN (below_alloc0 _ _) _⟩;rw [HM.out]
 ·
  have e6 : (op == 6) = false:=by simpa using h6
  have e7 : (op == 7) = false:=by simpa using h7
  have e4 : (op == 4) = false:=by simpa using h4'
  have HM:=Lib.hid (show movedV op n es held = held from by simp [movedV,h6,h7,h4']);clear h6 h7 h4' h67 h4
  go_enter Tryz.func100, Tryz.ntmps100
  go_wp2
  go_ret
  exact ⟨ret_int (by rw [HM.out]),below_alloc0 _ _⟩
end Go.Proofs.YtkgoajnnkimkaaaGreat
namespace Go.Proofs.YtkgoajnnkimkaaaGreat
open Go.ChangeShapes Go.WideShapes Go.ChangeAt Go.RowKit
end Go.Proofs.YtkgoajnnkimkaaaGreat
