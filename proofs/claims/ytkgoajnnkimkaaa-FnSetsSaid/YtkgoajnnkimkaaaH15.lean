/- Contracts of the reference's l04One, l04Right, l04Ok for statements that may be drawn: all are right. -/
import Derived.Test.YtkgoajnnkimkaaaH14
import Derived.Test.YtkgoajnnkimkaaaH3
set_option linter.unusedSimpArgs false
set_option linter.unusedVariables false
set_option maxRecDepth 100000
set_option maxHeartbeats 16000000
namespace Go.Proofs.Ytkgoajnnkimkaaa
open Go.ChangeShapes Go.WideShapes Go.ChangeAt Go.RowKit
theorem set3_glob {x : ByteArray} (h : x ∈ setL3) : x ∈ globL:=by
 simp only [setL3,globL,List.mem_cons,List.not_mem_nil,or_false] at h ⊢;rcases h with h | h | h <;> simp [h]
def stV (x : St) (A Ab Ae : Option Addr) (c cb ce : Nat) : Value:=.agg #[.int .i64 x.kind,.string x.name,.int .i64 x.term.kind,.int .i64 x.term.num,.string x.term.name,.slice A x.term.kids.length c,.slice Ab x.body.length cb,.slice Ae x.els.length ce]
theorem l04One_set {B : Nat} (x : ByteArray) (t : Tm) (A Ab Ae : Option Addr) (c cb ce : Nat) (w : World) (hk : KidsAt w B A t.kids) (hx : isNameB x = true) (hs : x.size ≤ 1099511627776) (ht : termOk 6 t = true) (hb : TmB 1048576 t) :
  Calls Try.prog 114 #[.agg #[.int .i64 1,.string x,.int .i64 t.kind,.int .i64 t.num,.string t.name,.slice A t.kids.length c,.slice Ab 0 cb,.slice Ae 0 ce]] w fun e w'=>e = .returned (.bool true) ∧ Below w.heap.size w w':=by
 have hbA:=below_alloc0 w (.cells #[.int .i64 1,.string x,.int .i64 t.kind,.int .i64 t.num,.string t.name,.slice A t.kids.length c,.slice Ab 0 cb,.slice Ae 0 ce] 106);obtain ⟨p,q⟩:=row_facts (heap_alloc_new w (.cells #[.int .i64 1,.string x,.int .i64 t.kind,.int .i64 t.num,.string t.name,.slice A t.kids.length c,.slice Ab 0 cb,.slice Ae 0 ce] 106));have c0:=p 0 _ rfl;have c1:=p 1 _ rfl;have c2:=p 2 _ rfl;have c3:=p 3 _ rfl;have c4:=p 4 _ rfl;have c5:=p 5 _ rfl;have c6:=p 6 _ rfl;have c7:=p 7 _ rfl;have hkA:=hk.full.below hbA;clear p q
 go_enter Try.func114, Try.ntmps114
 go_wp2_with fail
 generalize w.alloc (.cells #[.int .i64 1,.string x,.int .i64 t.kind,.int .i64 t.num,.string t.name,.slice A t.kids.length c,.slice Ab 0 cb,.slice Ae 0 ce] 106) = W at hbA c0 c1 c2 c3 c4 c5 c6 c7 hkA ⊢;refine (sameTerm_zero t A c W (by have:=hb.fits;omega)).mono ?_;rintro e w1 ⟨rfl,hb1⟩;have hkB:=hkA.mono hbA.size |>.full.below hb1
 have d0:=cell_below hb1 c0;have d1:=cell_below hb1 c1;have d2:=cell_below hb1 c2;have d3:=cell_below hb1 c3;have d4:=cell_below hb1 c4;have d5:=cell_below hb1 c5;have d6:=cell_below hb1 c6;have d7:=cell_below hb1 c7;have HW1:=Lib.hid (below_trans' hbA hb1);have HKB:=Lib.hid hkB;clear c0 c1 c2 c3 c4 c5 c6 c7 hkA hkB hbA hb1;have htm:=termOk_s (B:=W.heap.size) (L:=1048576) t A c w1 HKB.out hb (by omega);rw [ht] at htm;have HTM:=Lib.hid htm;clear htm;have hnm:=isName_s x w1 hs;rw [hx] at hnm;go_wp2_with fail
 refine hnm.mono ?_;rintro e w2 ⟨rfl,rfl⟩;go_wp2_with fail
 refine HTM.out.mono ?_;rintro e w2 ⟨rfl,hb2⟩;have e0:=cell_below hb2 d0;have e1:=cell_below hb2 d1;have e2:=cell_below hb2 d2;have e3:=cell_below hb2 d3;have e4:=cell_below hb2 d4;have e5:=cell_below hb2 d5;have e6:=cell_below hb2 d6;have e7:=cell_below hb2 d7;go_wp2_with fail
 go_ret
 exact ⟨rfl,below_trans' HW1.out hb2⟩
theorem l04One_cond {B : Nat} (t : Tm) (n m : Nat) (A Ab Ae : Option Addr) (c cb ce : Nat) (w : World) (hk : KidsAt w B A t.kids) (ht : termOk 6 t = true) (hb : TmB 1048576 t) :
  Calls Try.prog 114 #[.agg #[.int .i64 2,.string ⟨#[]⟩,.int .i64 t.kind,.int .i64 t.num,.string t.name,.slice A t.kids.length c,.slice Ab n cb,.slice Ae m ce]] w fun e w'=>e = .returned (.bool true) ∧ Below w.heap.size w w':=by
 have hbA:=below_alloc0 w (.cells #[.int .i64 2,.string ⟨#[]⟩,.int .i64 t.kind,.int .i64 t.num,.string t.name,.slice A t.kids.length c,.slice Ab n cb,.slice Ae m ce] 106);obtain ⟨p,q⟩:=row_facts (heap_alloc_new w (.cells #[.int .i64 2,.string ⟨#[]⟩,.int .i64 t.kind,.int .i64 t.num,.string t.name,.slice A t.kids.length c,.slice Ab n cb,.slice Ae m ce] 106));have c0:=p 0 _ rfl;have c1:=p 1 _ rfl;have c2:=p 2 _ rfl;have c3:=p 3 _ rfl;have c4:=p 4 _ rfl;have c5:=p 5 _ rfl;have c6:=p 6 _ rfl;have c7:=p 7 _ rfl;have hkA:=hk.full.below hbA;clear p q
 go_enter Try.func114, Try.ntmps114
 go_wp2_with fail
 generalize w.alloc (.cells #[.int .i64 2,.string ⟨#[]⟩,.int .i64 t.kind,.int .i64 t.num,.string t.name,.slice A t.kids.length c,.slice Ab n cb,.slice Ae m ce] 106) = W at hbA c0 c1 c2 c3 c4 c5 c6 c7 hkA ⊢;refine (sameTerm_zero t A c W (by have:=hb.fits;omega)).mono ?_;rintro e w1 ⟨rfl,hb1⟩;have hkB:=hkA.mono hbA.size |>.full.below hb1
 have d0:=cell_below hb1 c0;have d1:=cell_below hb1 c1;have d2:=cell_below hb1 c2;have d3:=cell_below hb1 c3;have d4:=cell_below hb1 c4;have d5:=cell_below hb1 c5;have d6:=cell_below hb1 c6;have d7:=cell_below hb1 c7;have HW1:=Lib.hid (below_trans' hbA hb1);have HKB:=Lib.hid hkB;clear c0 c1 c2 c3 c4 c5 c6 c7 hkA hkB hbA hb1;have htm:=termOk_s (B:=W.heap.size) (L:=1048576) t A c w1 HKB.out hb (by omega);rw [ht] at htm;have HTM:=Lib.hid htm;clear htm;go_wp2_with fail
 refine HTM.out.mono ?_;rintro e w2 ⟨rfl,hb2⟩;have e0:=cell_below hb2 d0;have e1:=cell_below hb2 d1;have e2:=cell_below hb2 d2;have e3:=cell_below hb2 d3;have e4:=cell_below hb2 d4;have e5:=cell_below hb2 d5;have e6:=cell_below hb2 d6;have e7:=cell_below hb2 d7;go_wp2_with fail
 go_ret
 exact ⟨rfl,below_trans' HW1.out hb2⟩
theorem l04One_loop {B : Nat} (t : Tm) (n : Nat) (A Ab Ae : Option Addr) (c cb ce : Nat) (w : World) (hk : KidsAt w B A t.kids) (ht : termOk 6 t = true) (hb : TmB 1048576 t) :
  Calls Try.prog 114 #[.agg #[.int .i64 3,.string ⟨#[]⟩,.int .i64 t.kind,.int .i64 t.num,.string t.name,.slice A t.kids.length c,.slice Ab n cb,.slice Ae 0 ce]] w fun e w'=>e = .returned (.bool true) ∧ Below w.heap.size w w':=by
 have hbA:=below_alloc0 w (.cells #[.int .i64 3,.string ⟨#[]⟩,.int .i64 t.kind,.int .i64 t.num,.string t.name,.slice A t.kids.length c,.slice Ab n cb,.slice Ae 0 ce] 106);obtain ⟨p,q⟩:=row_facts (heap_alloc_new w (.cells #[.int .i64 3,.string ⟨#[]⟩,.int .i64 t.kind,.int .i64 t.num,.string t.name,.slice A t.kids.length c,.slice Ab n cb,.slice Ae 0 ce] 106));have c0:=p 0 _ rfl;have c1:=p 1 _ rfl;have c2:=p 2 _ rfl;have c3:=p 3 _ rfl;have c4:=p 4 _ rfl;have c5:=p 5 _ rfl;have c6:=p 6 _ rfl;have c7:=p 7 _ rfl;have hkA:=hk.full.below hbA;clear p q
 go_enter Try.func114, Try.ntmps114
 go_wp2_with fail
 generalize w.alloc (.cells #[.int .i64 3,.string ⟨#[]⟩,.int .i64 t.kind,.int .i64 t.num,.string t.name,.slice A t.kids.length c,.slice Ab n cb,.slice Ae 0 ce] 106) = W at hbA c0 c1 c2 c3 c4 c5 c6 c7 hkA ⊢;refine (sameTerm_zero t A c W (by have:=hb.fits;omega)).mono ?_;rintro e w1 ⟨rfl,hb1⟩;have hkB:=hkA.mono hbA.size |>.full.below hb1
 have d0:=cell_below hb1 c0;have d1:=cell_below hb1 c1;have d2:=cell_below hb1 c2;have d3:=cell_below hb1 c3;have d4:=cell_below hb1 c4;have d5:=cell_below hb1 c5;have d6:=cell_below hb1 c6;have d7:=cell_below hb1 c7;have HW1:=Lib.hid (below_trans' hbA hb1);have HKB:=Lib.hid hkB;clear c0 c1 c2 c3 c4 c5 c6 c7 hkA hkB hbA hb1;have htm:=termOk_s (B:=W.heap.size) (L:=1048576) t A c w1 HKB.out hb (by omega);rw [ht] at htm;have HTM:=Lib.hid htm;clear htm;go_wp2_with fail
 refine HTM.out.mono ?_;rintro e w2 ⟨rfl,hb2⟩;have e0:=cell_below hb2 d0;have e1:=cell_below hb2 d1;have e2:=cell_below hb2 d2;have e3:=cell_below hb2 d3;have e4:=cell_below hb2 d4;have e5:=cell_below hb2 d5;have e6:=cell_below hb2 d6;have e7:=cell_below hb2 d7;go_wp2_with fail
 go_ret
 exact ⟨rfl,below_trans' HW1.out hb2⟩
theorem l04One_word4 {B : Nat} (x : ByteArray) (A Ab Ae : Option Addr) (c cb ce : Nat) (w : World) (hk : KidsAt w B A zeroT.kids) (hx : isNameB x = true) (hs : x.size ≤ 1099511627776) :
  Calls Try.prog 114 #[.agg #[.int .i64 4,.string x,.int .i64 zeroT.kind,.int .i64 zeroT.num,.string zeroT.name,.slice A zeroT.kids.length c,.slice Ab 0 cb,.slice Ae 0 ce]] w fun e w'=>e = .returned (.bool true) ∧ Below w.heap.size w w':=by
 have hbA:=below_alloc0 w (.cells #[.int .i64 4,.string x,.int .i64 zeroT.kind,.int .i64 zeroT.num,.string zeroT.name,.slice A zeroT.kids.length c,.slice Ab 0 cb,.slice Ae 0 ce] 106);obtain ⟨p,q⟩:=row_facts (heap_alloc_new w (.cells #[.int .i64 4,.string x,.int .i64 zeroT.kind,.int .i64 zeroT.num,.string zeroT.name,.slice A zeroT.kids.length c,.slice Ab 0 cb,.slice Ae 0 ce] 106));have c0:=p 0 _ rfl;have c1:=p 1 _ rfl;have c2:=p 2 _ rfl;have c3:=p 3 _ rfl;have c4:=p 4 _ rfl;have c5:=p 5 _ rfl;have c6:=p 6 _ rfl;have c7:=p 7 _ rfl;have hkA:=hk.full.below hbA;clear p q
 go_enter Try.func114, Try.ntmps114
 go_wp2_with fail
 generalize w.alloc (.cells #[.int .i64 4,.string x,.int .i64 zeroT.kind,.int .i64 zeroT.num,.string zeroT.name,.slice A zeroT.kids.length c,.slice Ab 0 cb,.slice Ae 0 ce] 106) = W at hbA c0 c1 c2 c3 c4 c5 c6 c7 hkA ⊢;refine (sameTerm_zero zeroT A c W (by simp [zeroT,Tm.kids])).mono ?_;rintro e w1 ⟨rfl,hb1⟩;have hkB:=hkA.mono hbA.size |>.full.below hb1
 have d0:=cell_below hb1 c0;have d1:=cell_below hb1 c1;have d2:=cell_below hb1 c2;have d3:=cell_below hb1 c3;have d4:=cell_below hb1 c4;have d5:=cell_below hb1 c5;have d6:=cell_below hb1 c6;have d7:=cell_below hb1 c7;have HW1:=Lib.hid (below_trans' hbA hb1);have HKB:=Lib.hid hkB;clear c0 c1 c2 c3 c4 c5 c6 c7 hkA hkB hbA hb1;have hzz:=zeroT_zero;have hnm:=isName_s x w1 hs;rw [hx] at hnm;go_wp2_with fail
 refine hnm.mono ?_;rintro e w2 ⟨rfl,rfl⟩;go_wp2_with fail
 go_ret
 exact ⟨rfl,HW1.out⟩
theorem l04One_word5 {B : Nat} (x : ByteArray) (A Ab Ae : Option Addr) (c cb ce : Nat) (w : World) (hk : KidsAt w B A zeroT.kids) (hx : isNameB x = true) (hs : x.size ≤ 1099511627776) :
  Calls Try.prog 114 #[.agg #[.int .i64 5,.string x,.int .i64 zeroT.kind,.int .i64 zeroT.num,.string zeroT.name,.slice A zeroT.kids.length c,.slice Ab 0 cb,.slice Ae 0 ce]] w fun e w'=>e = .returned (.bool true) ∧ Below w.heap.size w w':=by
 have hbA:=below_alloc0 w (.cells #[.int .i64 5,.string x,.int .i64 zeroT.kind,.int .i64 zeroT.num,.string zeroT.name,.slice A zeroT.kids.length c,.slice Ab 0 cb,.slice Ae 0 ce] 106);obtain ⟨p,q⟩:=row_facts (heap_alloc_new w (.cells #[.int .i64 5,.string x,.int .i64 zeroT.kind,.int .i64 zeroT.num,.string zeroT.name,.slice A zeroT.kids.length c,.slice Ab 0 cb,.slice Ae 0 ce] 106));have c0:=p 0 _ rfl;have c1:=p 1 _ rfl;have c2:=p 2 _ rfl;have c3:=p 3 _ rfl;have c4:=p 4 _ rfl;have c5:=p 5 _ rfl;have c6:=p 6 _ rfl;have c7:=p 7 _ rfl;have hkA:=hk.full.below hbA;clear p q
 go_enter Try.func114, Try.ntmps114
 go_wp2_with fail
 generalize w.alloc (.cells #[.int .i64 5,.string x,.int .i64 zeroT.kind,.int .i64 zeroT.num,.string zeroT.name,.slice A zeroT.kids.length c,.slice Ab 0 cb,.slice Ae 0 ce] 106) = W at hbA c0 c1 c2 c3 c4 c5 c6 c7 hkA ⊢;refine (sameTerm_zero zeroT A c W (by simp [zeroT,Tm.kids])).mono ?_;rintro e w1 ⟨rfl,hb1⟩;have hkB:=hkA.mono hbA.size |>.full.below hb1
 have d0:=cell_below hb1 c0;have d1:=cell_below hb1 c1;have d2:=cell_below hb1 c2;have d3:=cell_below hb1 c3;have d4:=cell_below hb1 c4;have d5:=cell_below hb1 c5;have d6:=cell_below hb1 c6;have d7:=cell_below hb1 c7;have HW1:=Lib.hid (below_trans' hbA hb1);have HKB:=Lib.hid hkB;clear c0 c1 c2 c3 c4 c5 c6 c7 hkA hkB hbA hb1;have hzz:=zeroT_zero;have hnm:=isName_s x w1 hs;rw [hx] at hnm;go_wp2_with fail
 refine hnm.mono ?_;rintro e w2 ⟨rfl,rfl⟩;go_wp2_with fail
 go_ret
 exact ⟨rfl,HW1.out⟩
theorem l04One_word6 {B : Nat} (x : ByteArray) (A Ab Ae : Option Addr) (c cb ce : Nat) (w : World) (hk : KidsAt w B A zeroT.kids) (hx : isNameB x = true) (hs : x.size ≤ 1099511627776) :
  Calls Try.prog 114 #[.agg #[.int .i64 6,.string x,.int .i64 zeroT.kind,.int .i64 zeroT.num,.string zeroT.name,.slice A zeroT.kids.length c,.slice Ab 0 cb,.slice Ae 0 ce]] w fun e w'=>e = .returned (.bool true) ∧ Below w.heap.size w w':=by
 have hbA:=below_alloc0 w (.cells #[.int .i64 6,.string x,.int .i64 zeroT.kind,.int .i64 zeroT.num,.string zeroT.name,.slice A zeroT.kids.length c,.slice Ab 0 cb,.slice Ae 0 ce] 106);obtain ⟨p,q⟩:=row_facts (heap_alloc_new w (.cells #[.int .i64 6,.string x,.int .i64 zeroT.kind,.int .i64 zeroT.num,.string zeroT.name,.slice A zeroT.kids.length c,.slice Ab 0 cb,.slice Ae 0 ce] 106));have c0:=p 0 _ rfl;have c1:=p 1 _ rfl;have c2:=p 2 _ rfl;have c3:=p 3 _ rfl;have c4:=p 4 _ rfl;have c5:=p 5 _ rfl;have c6:=p 6 _ rfl;have c7:=p 7 _ rfl;have hkA:=hk.full.below hbA;clear p q
 go_enter Try.func114, Try.ntmps114
 go_wp2_with fail
 generalize w.alloc (.cells #[.int .i64 6,.string x,.int .i64 zeroT.kind,.int .i64 zeroT.num,.string zeroT.name,.slice A zeroT.kids.length c,.slice Ab 0 cb,.slice Ae 0 ce] 106) = W at hbA c0 c1 c2 c3 c4 c5 c6 c7 hkA ⊢;refine (sameTerm_zero zeroT A c W (by simp [zeroT,Tm.kids])).mono ?_;rintro e w1 ⟨rfl,hb1⟩;have hkB:=hkA.mono hbA.size |>.full.below hb1
 have d0:=cell_below hb1 c0;have d1:=cell_below hb1 c1;have d2:=cell_below hb1 c2;have d3:=cell_below hb1 c3;have d4:=cell_below hb1 c4;have d5:=cell_below hb1 c5;have d6:=cell_below hb1 c6;have d7:=cell_below hb1 c7;have HW1:=Lib.hid (below_trans' hbA hb1);have HKB:=Lib.hid hkB;clear c0 c1 c2 c3 c4 c5 c6 c7 hkA hkB hbA hb1;have hzz:=zeroT_zero;have hnm:=isName_s x w1 hs;rw [hx] at hnm;go_wp2_with fail
 refine hnm.mono ?_;rintro e w2 ⟨rfl,rfl⟩;go_wp2_with fail
 go_ret
 exact ⟨rfl,HW1.out⟩
theorem l04One_word7 {B : Nat} (x : ByteArray) (A Ab Ae : Option Addr) (c cb ce : Nat) (w : World) (hk : KidsAt w B A zeroT.kids) (hx : isNameB x = true) (hs : x.size ≤ 1099511627776) :
  Calls Try.prog 114 #[.agg #[.int .i64 7,.string x,.int .i64 zeroT.kind,.int .i64 zeroT.num,.string zeroT.name,.slice A zeroT.kids.length c,.slice Ab 0 cb,.slice Ae 0 ce]] w fun e w'=>e = .returned (.bool true) ∧ Below w.heap.size w w':=by
 have hbA:=below_alloc0 w (.cells #[.int .i64 7,.string x,.int .i64 zeroT.kind,.int .i64 zeroT.num,.string zeroT.name,.slice A zeroT.kids.length c,.slice Ab 0 cb,.slice Ae 0 ce] 106);obtain ⟨p,q⟩:=row_facts (heap_alloc_new w (.cells #[.int .i64 7,.string x,.int .i64 zeroT.kind,.int .i64 zeroT.num,.string zeroT.name,.slice A zeroT.kids.length c,.slice Ab 0 cb,.slice Ae 0 ce] 106));have c0:=p 0 _ rfl;have c1:=p 1 _ rfl;have c2:=p 2 _ rfl;have c3:=p 3 _ rfl;have c4:=p 4 _ rfl;have c5:=p 5 _ rfl;have c6:=p 6 _ rfl;have c7:=p 7 _ rfl;have hkA:=hk.full.below hbA;clear p q
 go_enter Try.func114, Try.ntmps114
 go_wp2_with fail
 generalize w.alloc (.cells #[.int .i64 7,.string x,.int .i64 zeroT.kind,.int .i64 zeroT.num,.string zeroT.name,.slice A zeroT.kids.length c,.slice Ab 0 cb,.slice Ae 0 ce] 106) = W at hbA c0 c1 c2 c3 c4 c5 c6 c7 hkA ⊢;refine (sameTerm_zero zeroT A c W (by simp [zeroT,Tm.kids])).mono ?_;rintro e w1 ⟨rfl,hb1⟩;have hkB:=hkA.mono hbA.size |>.full.below hb1
 have d0:=cell_below hb1 c0;have d1:=cell_below hb1 c1;have d2:=cell_below hb1 c2;have d3:=cell_below hb1 c3;have d4:=cell_below hb1 c4;have d5:=cell_below hb1 c5;have d6:=cell_below hb1 c6;have d7:=cell_below hb1 c7;have HW1:=Lib.hid (below_trans' hbA hb1);have HKB:=Lib.hid hkB;clear c0 c1 c2 c3 c4 c5 c6 c7 hkA hkB hbA hb1;have hzz:=zeroT_zero;have hnm:=isName_s x w1 hs;rw [hx] at hnm;go_wp2_with fail
 refine hnm.mono ?_;rintro e w2 ⟨rfl,rfl⟩;go_wp2_with fail
 go_ret
 exact ⟨rfl,HW1.out⟩
theorem l04One_skip {B : Nat}  (A Ab Ae : Option Addr) (c cb ce : Nat) (w : World) (hk : KidsAt w B A zeroT.kids)  :
  Calls Try.prog 114 #[.agg #[.int .i64 8,.string ⟨#[]⟩,.int .i64 zeroT.kind,.int .i64 zeroT.num,.string zeroT.name,.slice A zeroT.kids.length c,.slice Ab 0 cb,.slice Ae 0 ce]] w fun e w'=>e = .returned (.bool true) ∧ Below w.heap.size w w':=by
 have hbA:=below_alloc0 w (.cells #[.int .i64 8,.string ⟨#[]⟩,.int .i64 zeroT.kind,.int .i64 zeroT.num,.string zeroT.name,.slice A zeroT.kids.length c,.slice Ab 0 cb,.slice Ae 0 ce] 106);obtain ⟨p,q⟩:=row_facts (heap_alloc_new w (.cells #[.int .i64 8,.string ⟨#[]⟩,.int .i64 zeroT.kind,.int .i64 zeroT.num,.string zeroT.name,.slice A zeroT.kids.length c,.slice Ab 0 cb,.slice Ae 0 ce] 106));have c0:=p 0 _ rfl;have c1:=p 1 _ rfl;have c2:=p 2 _ rfl;have c3:=p 3 _ rfl;have c4:=p 4 _ rfl;have c5:=p 5 _ rfl;have c6:=p 6 _ rfl;have c7:=p 7 _ rfl;have hkA:=hk.full.below hbA;clear p q
 go_enter Try.func114, Try.ntmps114
 go_wp2_with fail
 generalize w.alloc (.cells #[.int .i64 8,.string ⟨#[]⟩,.int .i64 zeroT.kind,.int .i64 zeroT.num,.string zeroT.name,.slice A zeroT.kids.length c,.slice Ab 0 cb,.slice Ae 0 ce] 106) = W at hbA c0 c1 c2 c3 c4 c5 c6 c7 hkA ⊢;refine (sameTerm_zero zeroT A c W (by simp [zeroT,Tm.kids])).mono ?_;rintro e w1 ⟨rfl,hb1⟩;have hkB:=hkA.mono hbA.size |>.full.below hb1
 have d0:=cell_below hb1 c0;have d1:=cell_below hb1 c1;have d2:=cell_below hb1 c2;have d3:=cell_below hb1 c3;have d4:=cell_below hb1 c4;have d5:=cell_below hb1 c5;have d6:=cell_below hb1 c6;have d7:=cell_below hb1 c7;have HW1:=Lib.hid (below_trans' hbA hb1);have HKB:=Lib.hid hkB;clear c0 c1 c2 c3 c4 c5 c6 c7 hkA hkB hbA hb1;have hzz:=zeroT_zero;go_wp2_with fail
 go_ret
 exact ⟨rfl,HW1.out⟩
theorem l04One_any {B d : Nat} {ps : List ByteArray} (hps : ∀ p ∈ ps, p ∈ procL4) (x : St) (g : St.G ps d x) (A Ab Ae : Option Addr) (c cb ce : Nat) (w : World) (hk : KidsAt w B A x.term.kids) :
  Calls Try.prog 114 #[stV x A Ab Ae c cb ce] w fun e w'=>e = .returned (.bool true) ∧ Below w.heap.size w w':=by
 have hsz : ∀ y : ByteArray,(y ∈ globL ∨ y ∈ lockL ∨ y ∈ procL4) → y.size ≤ 1099511627776:=fun y h=>Nat.le_trans (small_size h) (by omega);cases x with
 | set x t =>
  simp only [St.G] at g;exact l04One_set x t A Ab Ae c cb ce w hk (glob_name (set3_glob g.1)) (hsz x (.inl (set3_glob g.1))) (g.2.ok 6 (by omega)) g.2.b
 | word k x =>
  simp only [St.G] at g;rcases g with ⟨h | h,hx⟩ | ⟨h | h,hx⟩
  · subst h;exact l04One_word4 x A Ab Ae c cb ce w hk (proc_name (hps _ hx)) (hsz x (.inr (.inr (hps _ hx))))
  · subst h;exact l04One_word5 x A Ab Ae c cb ce w hk (proc_name (hps _ hx)) (hsz x (.inr (.inr (hps _ hx))))
  · subst h;exact l04One_word6 x A Ab Ae c cb ce w hk (lock_name hx) (hsz x (.inr (.inl hx)))
  · subst h;exact l04One_word7 x A Ab Ae c cb ce w hk (lock_name hx) (hsz x (.inr (.inl hx)))
 | skip=>exact l04One_skip A Ab Ae c cb ce w hk
 | loop t b =>
  simp only [St.G] at g;exact l04One_loop t b.length A Ab Ae c cb ce w hk (g.2.1.ok 6 (by omega)) g.2.1.b
 | cond t b e =>
  simp only [St.G] at g;exact l04One_cond t b.length e.length A Ab Ae c cb ce w hk (g.2.1.ok 6 (by omega)) g.2.1.b
theorem GL_get {ps : List ByteArray} {d : Nat} : ∀ (ss : List St),St.GL ps d ss → ∀ i (h : i < ss.length),St.G ps d ss[i]
 | [],g,i,h=>by simp at h
 | x :: r,g,i,h=>by
  simp only [St.GL] at g;cases i with
  | zero=>exact g.1
  | succ i=>exact GL_get r g.2 i (by simpa using h)
theorem G_subs {ps : List ByteArray} {d : Nat} {x : St} (g : St.G ps d x) (h : x.kind = 2 ∨ x.kind = 3) : 0 < d ∧ St.GL ps (d - 1) x.body ∧ St.GL ps (d - 1) x.els:=by
 cases x with
 | set x t=>simp [St.kind] at h
 | word k x =>
  simp only [St.G] at g;simp only [St.kind] at h;omega
 | skip=>simp [St.kind] at h
 | loop t b =>
  simp only [St.G] at g;exact ⟨g.1,g.2.2,by simp [St.els,St.GL]⟩
 | cond t b e =>
  simp only [St.G] at g;exact ⟨g.1,g.2.2.1,g.2.2.2⟩
def RightSaid (ps : List ByteArray) (ss : List St) : Prop:=∀ (d r lo hi : Nat) (v : Value) (w : World),St.GL ps d ss → d ≤ r → r ≤ 6 → StsIn w lo hi ss v → hi ≤ w.heap.size → Calls Try.prog 108 #[v,.int .i64 (r : Int)] w fun e w'=>e = .returned (.bool true) ∧ Below w.heap.size w w'
theorem sts_below {w w' : World} {lo hi : Nat} {ss : List St} {v : Value} (h : StsIn w lo hi ss v) (hb : Below w.heap.size w w') (hh : hi ≤ w.heap.size) : StsIn w' lo hi ss v:=h.fr (S:=fun _=>False) (Fr.of_below hb) (fun _ _ _ h=>h) hh
theorem l04Right_of (ps : List ByteArray) (hps : ∀ p ∈ ps,p ∈ procL4) (ss : List St) (hn : St.cntL ss ≤ 1048576) (ih : ∀ zs : List St,St.cntL zs < St.cntL ss → RightSaid ps zs) : RightSaid ps ss:=by
 intro d r lo hi v w hg hdr hr6 h hh;obtain ⟨A0,c0,rfl⟩:=h.form;have HI:=Lib.hid ih;have HG:=Lib.hid (GL_get ss hg);have hsl:=cntL_len ss;have HS:=Lib.hid h;have HPS:=Lib.hid hps;clear ih h hg hps
 go_enter Try.func108, Try.ntmps108
 go_wp2_with fail
 go_loopg [5,6,7] ss.length (fun m i sp mn wr=>∃ j : Nat,j ≤ ss.length ∧ m = ss.length - j ∧ i = .int .i64 j ∧ Below w.heap.size w wr)
 case atStart=>exact ⟨0,by omega,by omega,rfl,Below.refl _ _⟩
 case round =>
  obtain ⟨j,hj,rfl,rfl,hD⟩:=hrel;have HD:=Lib.hid hD;by_cases hlt : j < ss.length
  ·
   have y1 : (j : Int) < (ss.length : Int):=by omega
   have y2 : (0 : Int) ≤ (j : Int):=by omega
   have hsub:=subs_cnt ss[j];have hle : St.cnt ss[j] ≤ St.cntL ss:=cnt_le hlt;have hszD:=hD.size;obtain ⟨ad,cap,A,c,Ab,cb,Ae,ce,m,n',e,eo,es,_,_,k0,k1,k2,k3,k4,k5,k6,k7,q1,q2,q3,q4,hk,hb,he⟩:=(sts_below HS.out hD hh).get hlt;injection e with e1 e2 e3;subst e1 e3;have hgx:=HG.out j hlt;generalize hx : ss[j] = x at k0 k1 k2 k3 k4 k5 k6 k7 hk hb he hsub hle hgx;clear hx;have hbA:=below_alloc0 wr (.cells #[.int .i64 x.kind,.string x.name,.int .i64 x.term.kind,.int .i64 x.term.num,.string x.term.name,.slice A x.term.kids.length c,.slice Ab x.body.length cb,.slice Ae x.els.length ce] 106);obtain ⟨p,q⟩:=row_facts (heap_alloc_new wr (.cells #[.int .i64 x.kind,.string x.name,.int .i64 x.term.kind,.int .i64 x.term.num,.string x.term.name,.slice A x.term.kids.length c,.slice Ab x.body.length cb,.slice Ae x.els.length ce] 106));have d0:=p 0 _ rfl;have d1:=p 1 _ rfl;have d2:=p 2 _ rfl;have d3:=p 3 _ rfl;have d4:=p 4 _ rfl;have d5:=p 5 _ rfl;have d6:=p 6 _ rfl;have d7:=p 7 _ rfl;have hon:=l04One_any HPS.out x hgx A Ab Ae c cb ce (wr.alloc (.cells #[.int .i64 x.kind,.string x.name,.int .i64 x.term.kind,.int .i64 x.term.num,.string x.term.name,.slice A x.term.kids.length c,.slice Ab x.body.length cb,.slice Ae x.els.length ce] 106)) ((hk.sub (by omega) high_low).below hbA);unfold stV at hon;have HGS:=Lib.hid (G_subs hgx);have HHB:=Lib.hid hb;have HHE:=Lib.hid he;clear p q hk hb he hD eo es hgx;generalize hkd : x.kind = kd at k0 hon d0 d1 d2 d3 d4 d5 d6 d7 hbA HGS;clear hkd;have HON:=Lib.hid hon;have HBA:=Lib.hid hbA;clear hon hbA;rcases (show kd = 2 ∨ kd = 3 ∨ (¬ kd = 2 ∧ ¬ kd = 3) by omega) with rfl | rfl | ⟨z1,z2⟩
   ·
    obtain ⟨hd0,hgb,hge⟩:=HGS.out (by omega);go_wp2_with fail
    generalize wr.alloc (.cells #[.int .i64 2,.string x.name,.int .i64 x.term.kind,.int .i64 x.term.num,.string x.term.name,.slice A x.term.kids.length c,.slice Ab x.body.length cb,.slice Ae x.els.length ce] 106) = W at HON HBA d0 d1 d2 d3 d4 d5 d6 d7 ⊢;refine HON.out.mono ?_;rintro e w2 ⟨rfl,hb2⟩;have hw2:=below_trans' HBA.out hb2;have hs2:=hw2.size;have hsW:=HBA.out.size;have c0:=cell_below hb2 d0;have c3:=cell_below hb2 d3;have c6:=cell_below hb2 d6;have c7:=cell_below hb2 d7;have HB2:=Lib.hid hb2;have HW2:=Lib.hid hw2;clear hb2 hw2 d0 d1 d2 d3 d4 d5 d6 d7 HON k0 k1 k2 k3 k4 k5 k6 k7;have er : ((r : Nat) : Int) - 1 = ((r - 1 : Nat) : Int):=by omega
    have HC1:=Lib.hid (show Calls Try.prog 108 #[.slice Ab x.body.length cb,.int .i64 ((r : Int) - 1)] w2 _ from by rw [er];exact HI.out x.body (by omega) (d - 1) (r - 1) m n' _ w2 hgb (by omega) (by omega) (sts_below HHB.out HW2.out (by omega)) (by omega));have HC2:=Lib.hid (fun V (hV : Below w2.heap.size w2 V)=>(show Calls Try.prog 108 #[.slice Ae x.els.length ce,.int .i64 ((r : Int) - 1)] V _ from by rw [er];exact HI.out x.els (by omega) (d - 1) (r - 1) m n' _ V hge (by omega) (by omega) (sts_below HHE.out (below_trans' HW2.out hV) (by omega)) (by have:=hV.size;omega)));have hr0 : ¬ ((r : Int) = 0):=by omega
    have hfin : ∀ w4,Below w2.heap.size w2 w4 → Below w.heap.size w w4:=fun w4 h=>below_trans' HD.out (below_trans' HW2.out h);have HFN:=Lib.hid hfin;clear hgb hge hfin er;go_wp2_with fail
    refine HC1.out.mono ?_;rintro e w3 ⟨rfl,hb3⟩;have g0:=cell_below hb3 c0;have g6:=cell_below hb3 c6;have g7:=cell_below hb3 c7;have HB3:=Lib.hid hb3;go_wp2_with fail
    refine (HC2.out _ hb3).mono ?_;rintro e w4 ⟨rfl,hb4⟩;go_wp2_with fail
    go_roundg (ss.length - (j + 1))
    case measure=>omega
    case rel=>exact ⟨j + 1,by omega,rfl,by go_num,HFN.out _ (below_trans' HB3.out hb4)⟩
   ·
    obtain ⟨hd0,hgb,hge⟩:=HGS.out (by omega);go_wp2_with fail
    generalize wr.alloc (.cells #[.int .i64 3,.string x.name,.int .i64 x.term.kind,.int .i64 x.term.num,.string x.term.name,.slice A x.term.kids.length c,.slice Ab x.body.length cb,.slice Ae x.els.length ce] 106) = W at HON HBA d0 d1 d2 d3 d4 d5 d6 d7 ⊢;refine HON.out.mono ?_;rintro e w2 ⟨rfl,hb2⟩;have hw2:=below_trans' HBA.out hb2;have hs2:=hw2.size;have hsW:=HBA.out.size;have c0:=cell_below hb2 d0;have c3:=cell_below hb2 d3;have c6:=cell_below hb2 d6;have c7:=cell_below hb2 d7;have HB2:=Lib.hid hb2;have HW2:=Lib.hid hw2;clear hb2 hw2 d0 d1 d2 d3 d4 d5 d6 d7 HON k0 k1 k2 k3 k4 k5 k6 k7;have er : ((r : Nat) : Int) - 1 = ((r - 1 : Nat) : Int):=by omega
    have HC1:=Lib.hid (show Calls Try.prog 108 #[.slice Ab x.body.length cb,.int .i64 ((r : Int) - 1)] w2 _ from by rw [er];exact HI.out x.body (by omega) (d - 1) (r - 1) m n' _ w2 hgb (by omega) (by omega) (sts_below HHB.out HW2.out (by omega)) (by omega));have HC2:=Lib.hid (fun V (hV : Below w2.heap.size w2 V)=>(show Calls Try.prog 108 #[.slice Ae x.els.length ce,.int .i64 ((r : Int) - 1)] V _ from by rw [er];exact HI.out x.els (by omega) (d - 1) (r - 1) m n' _ V hge (by omega) (by omega) (sts_below HHE.out (below_trans' HW2.out hV) (by omega)) (by have:=hV.size;omega)));have hr0 : ¬ ((r : Int) = 0):=by omega
    have hfin : ∀ w4,Below w2.heap.size w2 w4 → Below w.heap.size w w4:=fun w4 h=>below_trans' HD.out (below_trans' HW2.out h);have HFN:=Lib.hid hfin;clear hgb hge hfin er;go_wp2_with fail
    refine HC1.out.mono ?_;rintro e w3 ⟨rfl,hb3⟩;have g0:=cell_below hb3 c0;have g6:=cell_below hb3 c6;have g7:=cell_below hb3 c7;have HB3:=Lib.hid hb3;go_wp2_with fail
    refine (HC2.out _ hb3).mono ?_;rintro e w4 ⟨rfl,hb4⟩;go_wp2_with fail
    go_roundg (ss.length - (j + 1))
    case measure=>omega
    case rel=>exact ⟨j + 1,by omega,rfl,by go_num,HFN.out _ (below_trans' HB3.out hb4)⟩
   ·
    go_wp2_with fail
    generalize wr.alloc (.cells #[.int .i64 kd,.string x.name,.int .i64 x.term.kind,.int .i64 x.term.num,.string x.term.name,.slice A x.term.kids.length c,.slice Ab x.body.length cb,.slice Ae x.els.length ce] 106) = W at HON HBA d0 d1 d2 d3 d4 d5 d6 d7 ⊢;refine HON.out.mono ?_;rintro e w2 ⟨rfl,hb2⟩;have HW2:=Lib.hid (below_trans' HBA.out hb2);have c0:=cell_below hb2 d0;clear d0 d1 d2 d3 d4 d5 d6 d7 HON hb2 k0 k1 k2 k3 k4 k5 k6 k7;go_wp2_with fail
    go_roundg (ss.length - (j + 1))
    case measure=>omega
    case rel=>exact ⟨j + 1,by omega,rfl,by go_num,below_trans' HD.out HW2.out⟩
  ·
   obtain rfl : j = ss.length:=by omega
   clear hD;go_wp2_with fail
   go_ret
   exact ⟨rfl,HD.out⟩
theorem l04Right_any (ps : List ByteArray) (hps : ∀ p ∈ ps,p ∈ procL4) (ss : List St) (hn : St.cntL ss ≤ 1048576) : RightSaid ps ss:=by
 have : ∀ (n : Nat) (ss : List St),St.cntL ss < n → St.cntL ss ≤ 1048576 → RightSaid ps ss:=by
  intro n;induction n with
  | zero=>intro ss h;omega
  | succ n ih=>intro ss h hn;exact l04Right_of ps hps ss hn fun zs hz=>ih zs (by omega) (by omega)
 exact this _ ss (Nat.lt_succ_self _) hn
theorem l04Ok_any (ps : List ByteArray) (hps : ∀ p ∈ ps, p ∈ procL4) (ss : List St) (hn : St.cntL ss ≤ 60) {d lo hi : Nat} (v : Value) (w : World) (hg : St.GL ps d ss) (hd : d ≤ 6) (h : StsIn w lo hi ss v) (hh : hi ≤ w.heap.size) :
  Calls Try.prog 96 #[v] w fun e w'=>e = .returned (.bool true) ∧ Below w.heap.size w w':=by
 have hcn:=Lib.hid (l04Count_any ss (by omega) lo hi v 60 w h (by omega) (by omega) hh);have hco:=(countL_ok ss 60 (by omega)).2.2.1 (by omega);have z1 : 0 ≤ countL ss 60:=by omega
 have HRT:=Lib.hid (fun m=>l04Right_any ps hps ss (by omega) d 6 lo hi v (w.drewN m) hg hd (by omega) (sts_below h (below_drewN (Below.refl _ _) m) hh) hh);clear hco;obtain ⟨A0,c0,rfl⟩:=h.form;clear h
 go_enter Try.func96, Try.ntmps96
 go_wp2_with fail
 refine hcn.out.mono ?_;rintro e w1 ⟨rfl,m,rfl⟩;go_wp2_with fail
 refine (HRT.out m).mono ?_;rintro e w2 ⟨rfl,hb2⟩;go_wp2_with fail
 go_ret
 exact ⟨rfl,below_trans' (below_drewN (Below.refl _ _) m) hb2⟩
end Go.Proofs.Ytkgoajnnkimkaaa
