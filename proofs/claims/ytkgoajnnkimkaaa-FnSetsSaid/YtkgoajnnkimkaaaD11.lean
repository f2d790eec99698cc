/- Contracts of lockNames and NamesOf, of the program and of the reference; of markStringS and heldStringS. -/
import Derived.Test.YtkgoajnnkimkaaaC4
import Derived.Test.YtkgoajnnkimkaaaM1
set_option linter.unusedSimpArgs false
set_option linter.unusedVariables false
set_option maxRecDepth 100000
set_option maxHeartbeats 16000000
namespace Go.Proofs.Ytkgoajnnkimkaaa
open Go.ChangeShapes Go.WideShapes Go.ChangeAt Go.RowKit
def nameAt (k : Cd) (i : Nat) : ByteArray:=(k.locks[i]?).getD ⟨#[]⟩
def namesTo (k : Cd) (s : Int) (j : Nat) : List ByteArray:=((List.range j).filter fun i : Nat=>inSetB s (i : Int)).map (nameAt k)
theorem namesTo_succ (k : Cd) (s : Int) (j : Nat) : namesTo k s (j + 1) = if inSetB s j = true then namesTo k s j ++ [nameAt k j] else namesTo k s j:=by
 unfold namesTo;rw [List.range_succ,List.filter_append,List.map_append];by_cases h : inSetB s j = true
 · simp [h]
 · simp [h]
theorem namesTo_len (k : Cd) (s : Int) (j : Nat) : (namesTo k s j).length ≤ j:=by
 unfold namesTo;rw [List.length_map];exact Nat.le_trans (List.length_filter_le _ _) (by simp)
def namesN (k : Cd) (s : Int) : List ByteArray:=if codeOkI k = true then namesTo k s k.locks.length else []
theorem nameAt_get {k : Cd} {i : Nat} (h : i < k.locks.length) : k.locks[i] = nameAt k i:=by simp [nameAt,h]
def listNat (s : Int) : List Nat:=if isSetB s then bitsTo s.toNat 6 else []
theorem listOf_nat (s : Int) : listOf s = (listNat s).map natI:=by
 unfold listOf listNat;split
 · rename_i h;obtain ⟨n,rfl,hn⟩:=isSetB_nat h;exact bitsL_six n hn
 · rfl
theorem listNat_len (s : Int) : (listNat s).length ≤ 6:=by
 unfold listNat;split
 · exact bitsTo_len _ _
 · simp
def NewTexts (w : World) (xs : List ByteArray) (e : Ending) (w' : World) : Prop:=NewRow w 9 1 xs.length (xs.map sv) e w'
theorem lockNames_any {B : Nat} (v : CV) (k : Cd) (s : Int) (w : World) (hr : Right k) (hk : CodeAt w B v k) :
  Calls Try.prog 41 #[.agg #[.slice v.gA k.globals.length v.gc, .slice v.lA k.locks.length v.lc, .slice v.pA k.procs.length v.pc, .slice v.eA k.entry.length v.ec, .slice v.iA k.ins.length v.ic],.int .i64 s] w (NewTexts w (namesTo k s k.locks.length)):=by
 have hbx:=codeBox w v k;have hkf:=(hk.full.below hbx.1).full;have hlk:=hr.locks;clear hk hr
 go_enter Try.func41, Try.ntmps41
 go_wp2_with fail
 generalize w.alloc (.cells #[.slice v.gA k.globals.length v.gc, .slice v.lA k.locks.length v.lc, .slice v.pA k.procs.length v.pc, .slice v.eA k.entry.length v.ec, .slice v.iA k.ins.length v.ic] 45) = W at hbx hkf ⊢;obtain ⟨hbw,hsz,c0,c1,c2,c3,c4⟩:=id hbx;go_wp2_with fail
 clear c0 c1 c2 c3 c4;go_loopg [5,11] k.locks.length (fun l out i wr=>∃ j : Nat,j ≤ k.locks.length ∧ l = k.locks.length - j ∧ i = .int .i64 j ∧ wr.ownsRow W.heap.size 9 1 out (namesTo k s j).length ((namesTo k s j).map sv) ∧ Below W.heap.size W wr)
 case atStart=>exact ⟨0,by omega,by omega,rfl,World.ownsRow_nil _ _ _ _,Below.refl _ _⟩
 case round =>
  obtain ⟨j,hj,rfl,rfl,ho,hb⟩:=hrel;obtain ⟨Ao,co,rfl⟩:=own_form ho;have hll:=namesTo_len k s j;have hszb:=hb.size;by_cases hlt : j < k.locks.length
  ·
   obtain ⟨ad,ee,_,hc⟩:=(hkf.below hb).l.str hlt;rw [nameAt_get hlt] at hc;have HT:=Lib.hid (namesTo_succ k s j);have HE:=Lib.hid ee;rw [ee];clear ee;generalize nameAt k j = nm at *;cases hin : inSetB s j
   ·
    have HIN:=Lib.hid hin;clear hin;go_wp2_with fail
    refine (inSet_i s j _).mono ?_;rintro e w2 ⟨rfl,rfl⟩;rw [HIN.out];go_wp2_with fail
    rw [← HE.out];go_roundg (k.locks.length - (j + 1))
    case measure=>omega
    case rel=>exact ⟨j + 1,by omega,rfl,by go_num,by rw [HT.out,if_neg (by rw [HIN.out];simp)];exact ho,hb⟩
   ·
    have HIN:=Lib.hid hin;clear hin;go_wp2_with fail
    refine (inSet_i s j _).mono ?_;rintro e w2 ⟨rfl,rfl⟩;rw [HIN.out];go_wp2_with (at_builtin;refine append_str rfl _ _ rfl ho rfl rfl (by omega) hszb ?_;intro A' c' w3 ho3 hg3 hl3)
    rw [← HE.out];go_roundg (k.locks.length - (j + 1))
    case measure=>omega
    case rel =>
     refine ⟨j + 1,by omega,rfl,by go_num,?_,below_append hb ho hg3 hszb (Nat.le_refl _)⟩;rw [HT.out,if_pos HIN.out,List.length_append];exact ho3
  ·
   obtain rfl : j = k.locks.length:=by omega
   go_wp2_with fail
   go_ret
   exact ⟨Ao,co,rfl,own_mono ho (by omega),below_trans' hbw hb⟩
theorem newTexts_nil {w w' : World} {xs : List ByteArray} (h : xs = []) (hb : Below w.heap.size w w') : NewTexts w xs (.returned (.slice none 0 0)) w':=by
 subst h;exact ⟨none,0,rfl,World.ownsRow_nil _ _ _ _,hb⟩
theorem namesOf_i {B L : Nat} (v : CV) (k : Cd) (s : Int) (w : World) (hk : CodeAt w B v k) (hcb : CdB L k) (hL : L ≤ 1048576) :
  Calls Try.prog 23 #[.agg #[.slice v.gA k.globals.length v.gc, .slice v.lA k.locks.length v.lc, .slice v.pA k.procs.length v.pc, .slice v.eA k.entry.length v.ec, .slice v.iA k.ins.length v.ic],.int .i64 s] w (NewTexts w (namesN k s)):=by
 have hkf:=hk.full;have hbx:=codeBox w v k;have HC:=fun W (h : CodeAt W w.heap.size v k)=>codeOk_i v k W h hcb (by omega);cases hok : codeOkI k
 ·
  rw [hok] at HC;have HC:=Lib.hid HC;have HZ:=Lib.hid (show namesN k s = [] from by rw [namesN,if_neg (by rw [hok];simp)]);clear hok hcb hk
  go_enter Try.func23, Try.ntmps23
  go_wp2_with fail
  generalize w.alloc (.cells #[.slice v.gA k.globals.length v.gc, .slice v.lA k.locks.length v.lc, .slice v.pA k.procs.length v.pc, .slice v.eA k.entry.length v.ec, .slice v.iA k.ins.length v.ic] 45) = W at hbx ⊢;refine (HC.out _ (hkf.below hbx.1)).mono ?_;rintro e w1 ⟨rfl,hb1⟩;go_wp2_with fail
  go_ret
  exact newTexts_nil HZ.out (below_trans' hbx.1 hb1)
 ·
  rw [hok] at HC;have HC:=Lib.hid HC;have hr:=right_of hok;have HN:=Lib.hid (fun W (h : CodeAt W w.heap.size v k)=>lockNames_any v k s W hr h);have HZ:=Lib.hid (show namesN k s = namesTo k s k.locks.length from by rw [namesN,if_pos hok]);clear hok hcb hk hr
  go_enter Try.func23, Try.ntmps23
  go_wp2_with fail
  generalize w.alloc (.cells #[.slice v.gA k.globals.length v.gc, .slice v.lA k.locks.length v.lc, .slice v.pA k.procs.length v.pc, .slice v.eA k.entry.length v.ec, .slice v.iA k.ins.length v.ic] 45) = W at hbx ⊢;refine (HC.out _ (hkf.below hbx.1)).mono ?_;rintro e w1 ⟨rfl,hb1⟩;have hbx1:=hbx.to hb1;obtain ⟨q1,q2,c0,c1,c2,c3,c4⟩:=id hbx1;go_wp2_with fail
  refine (HN.out _ (hkf.below hbx1.1)).mono ?_;rintro e w2 ⟨A2,c2',rfl,ho2,hb2⟩;go_wp2_with fail
  go_ret
  rw [HZ.out];exact ⟨A2,c2',rfl,own_mono ho2 q1.size,below_trans' q1 hb2⟩
end Go.Proofs.Ytkgoajnnkimkaaa
