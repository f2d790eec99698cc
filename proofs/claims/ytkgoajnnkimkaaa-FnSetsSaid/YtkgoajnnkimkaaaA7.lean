/- Contract of entriesRight. -/
import Derived.Test.YtkgoajnnkimkaaaA6
set_option linter.unusedSimpArgs false
set_option linter.unusedVariables false
set_option maxRecDepth 100000
set_option maxHeartbeats 16000000
namespace Go.Proofs.Ytkgoajnnkimkaaa
open Go.ChangeShapes Go.WideShapes Go.ChangeAt Go.RowKit
def entryAt (k : Cd) (i : Nat) : Int:=(k.entry[i]?).getD 0
def opAt (k : Cd) (a : Int) : Int:=((k.ins[a.toNat]?).map Is.op).getD 0
def endsTo (k : Cd) (n : Nat) : Nat:=((k.ins.take n).filter fun x=>decide (x.op = 9)).length
def rowB (k : Cd) (i : Nat) : Bool:=!(decide (endP k i ≤ entryAt k i)) && (!(decide ((k.ins.length : Int) < endP k i)) && decide (opAt k (endP k i - 1) = 9))
def entriesB (k : Cd) : Bool:=decide (k.ins.length ≤ 1500) && (decide (k.entry.length = k.procs.length) && (decide (entryAt k 0 = 0) && (decide (endsTo k k.ins.length = k.entry.length) && (List.range k.entry.length).all (rowB k))))
theorem endsTo_succ (k : Cd) (n : Nat) (h : n < k.ins.length) : endsTo k (n + 1) = endsTo k n + (if k.ins[n].op = 9 then 1 else 0):=by
 unfold endsTo;rw [List.take_succ_eq_append_getElem h,List.filter_append,List.length_append];by_cases h9 : k.ins[n].op = 9 <;> simp [h9]
theorem endsTo_le (k : Cd) (n : Nat) : endsTo k n ≤ n:=by
 unfold endsTo;refine Nat.le_trans (List.length_filter_le _ _) ?_;rw [List.length_take];omega
theorem entryAt_eq (k : Cd) (i : Nat) (h : i < k.entry.length) : entryAt k i = k.entry[i]:=by simp [entryAt,h]
theorem all_range_succ (n : Nat) (f : Nat → Bool) : (List.range (n + 1)).all f = ((List.range n).all f && f n):=by
 rw [List.range_succ,List.all_append];simp
theorem all_range_false {n i : Nat} {f : Nat → Bool} (h : i < n) (hf : f i = false) : (List.range n).all f = false :=
 List.all_eq_false.2 ⟨i,List.mem_range.2 h,by simp [hf]⟩
theorem entriesRight_no {B : Nat} (v : CV) (k : Cd) (w : World) (hk : CodeAt w B v k) (h0 : 1 ≤ k.procs.length) (hl : k.entry.length ≤ 1099511627776) (hi : k.ins.length ≤ 1099511627776) (hp : k.procs.length ≤ 1099511627776)
  (h : ¬ (k.ins.length ≤ 1500 ∧ k.entry.length = k.procs.length ∧ entryAt k 0 = 0)) :
  Calls Try.prog 46 #[.agg #[.slice v.gA k.globals.length v.gc, .slice v.lA k.locks.length v.lc, .slice v.pA k.procs.length v.pc, .slice v.eA k.entry.length v.ec, .slice v.iA k.ins.length v.ic]] w fun r w'=>r = .returned (.bool false) ∧ Below w.heap.size w w':=by
 by_cases h1 : k.ins.length ≤ 1500
 ·
  have q1 : decide ((1500 : Int) < (k.ins.length : Int)) = false:=by simp;omega
  by_cases h2 : k.entry.length = k.procs.length
  ·
   have q2 : (((k.entry.length : Nat) : Int) != (k.procs.length : Int)) = false:=by rw [h2];simp
   have h3 : ¬ entryAt k 0 = 0:=fun h3=>h ⟨h1,h2,h3⟩;have hel : 0 < k.entry.length:=by omega
   rw [entryAt_eq k 0 hel] at h3;have q3 : (k.entry[0] != 0) = true:=by simpa using h3
   obtain ⟨ad,e,hb,hc⟩:=hk.e.full.int (k:=0) hel;have hc' : w.cell? ad = some (.int .i64 k.entry[0]):=by rw [← hc];rfl
   rw [e];have H2:=Lib.hid h2;clear h h2 h3 hc e
   go_enter Try.func46, Try.ntmps46
   go_wp2_with fail
   go_ret
   exact ⟨rfl,below_alloc0 _ _⟩
  ·
   have q2 : (((k.entry.length : Nat) : Int) != (k.procs.length : Int)) = true:=by rw [bne_iff_ne];omega
   go_enter Try.func46, Try.ntmps46
   go_wp2_with fail
   go_ret
   exact ⟨rfl,below_alloc0 _ _⟩
 ·
  have q1 : decide ((1500 : Int) < (k.ins.length : Int)) = true:=by simp;omega
  go_enter Try.func46, Try.ntmps46
  go_wp2_with fail
  go_ret
  exact ⟨rfl,below_alloc0 _ _⟩
theorem entriesRight_yes {B L : Nat} (v : CV) (k : Cd) (w : World) (hk : CodeAt w B v k) (hcb : CdB L k) (h0 : 1 ≤ k.procs.length) (h1 : k.ins.length ≤ 1500) (h2 : k.entry.length = k.procs.length) (h3 : entryAt k 0 = 0) (hl : k.entry.length ≤ 1099511627776) :
  Calls Try.prog 46 #[.agg #[.slice v.gA k.globals.length v.gc, .slice v.lA k.locks.length v.lc, .slice v.pA k.procs.length v.pc, .slice v.eA k.entry.length v.ec, .slice v.iA k.ins.length v.ic]] w fun r w'=>r = .returned (.bool (entriesB k)) ∧ Below w.heap.size w w':=by
 have HN:=Lib.hid (show entriesB k = (decide (endsTo k k.ins.length = k.entry.length) && (List.range k.entry.length).all (rowB k)) from by
  rw [entriesB,decide_eq_true h1,decide_eq_true h2,decide_eq_true h3];rfl)
 have fin : ∀ (y : Bool) w',y = entriesB k → Below w.heap.size w w' → Ending.returned (.bool y) = .returned (.bool (entriesB k)) ∧ Below w.heap.size w w':=fun y w' h1 h2=>⟨by rw [h1],h2⟩
 have q1 : decide ((1500 : Int) < (k.ins.length : Int)) = false:=by simp;omega
 have q2 : (((k.entry.length : Nat) : Int) != (k.procs.length : Int)) = false:=by rw [h2];simp
 have hel : 1 ≤ k.entry.length:=by omega
 have hkf:=hk.full;obtain ⟨ad,e,hb,hc⟩:=hkf.e.int (k:=0) hel;have H3:=Lib.hid h3;have h3' : k.entry[0] = 0:=by rw [← entryAt_eq k 0 hel];exact h3
 have hc' : w.cell? ad = some (.int .i64 0):=by rw [← h3',← hc];rfl
 have HEF:=Lib.hid hcb.entryF;have H2:=Lib.hid h2;have HE:=Lib.hid e;clear hc h3 h3' h2 hcb;rw [e];clear e
 go_enter Try.func46, Try.ntmps46
 go_wp2_with fail
 rw [← HE.out];have hbx:=codeBox w v k;generalize w.alloc (.cells #[.slice v.gA k.globals.length v.gc, .slice v.lA k.locks.length v.lc, .slice v.pA k.procs.length v.pc, .slice v.eA k.entry.length v.ec, .slice v.iA k.ins.length v.ic] 45) = W at hbx ⊢;have hb0:=hbx.1;go_loopw [3,32] (fun c i wr=>∃ n : Nat,n ≤ k.ins.length ∧ i = .int .i64 n ∧ c = .int .i64 (endsTo k n : Int) ∧ Below W.heap.size W wr) (fun _ i _=>k.ins.length - (intOf i).toNat)
 case atStart=>exact ⟨0,by omega,rfl,rfl,Below.refl _ _⟩
 case round =>
  obtain ⟨n,hn,rfl,rfl,hbr⟩:=hrel;have hle:=endsTo_le k n;have hsz:=hbr.size;by_cases hlt : n < k.ins.length
  ·
   obtain ⟨ad2,A',c',e2,hbk,c0,c1,c2,c3,c4,c5,c6,_⟩:=((hkf.i.below hb0).full.below hbr).get hlt;have hbk' : (ad2.add (n * 7)).block < wr.heap.size:=by omega
   have HS:=Lib.hid (endsTo_succ k n hlt);by_cases h9 : k.ins[n].op = 9
   ·
    have p9 : (k.ins[n].op == 9) = true:=by simp [h9]
    have H9:=Lib.hid h9;clear h9;rw [e2];clear e2;go_wp2_with fail
    go_roundw
    case rel=>exact ⟨n + 1,by omega,by go_num,by rw [HS.out,if_pos H9.out];go_num,below_alloc hbr (Nat.le_refl _) _⟩
    case measure=>simp [intOf];omega
   ·
    have p9 : (k.ins[n].op == 9) = false:=by simp [h9]
    have H9:=Lib.hid h9;clear h9;rw [e2];clear e2;go_wp2_with fail
    go_roundw
    case rel=>exact ⟨n + 1,by omega,by go_num,by rw [HS.out,if_neg H9.out];rfl,below_alloc hbr (Nat.le_refl _) _⟩
    case measure=>simp [intOf];omega
  ·
   obtain rfl : n = k.ins.length:=by omega
   obtain ⟨hb0r,hs0,b0,b1,b2,b3,b4⟩:=hbx.to hbr;have hkr:=(hkf.below hb0).full.below hbr;obtain ⟨wo,rfl⟩ : ∃ wo : World,wo = wr:=⟨_,rfl⟩
   by_cases hcnt : endsTo k k.ins.length = k.entry.length
   ·
    have q4 : (((endsTo k k.ins.length : Nat) : Int) != (k.entry.length : Int)) = false:=by rw [hcnt];simp
    have HCN:=Lib.hid hcnt;clear hcnt;go_wp2_with fail
    go_loopw [50] (fun i w2=>∃ p : Nat,p ≤ k.entry.length ∧ i = .int .i64 p ∧ (List.range p).all (rowB k) = true ∧ 0 ≤ entryAt k p ∧ Below wo.heap.size wo w2) (fun i _=>k.entry.length - (intOf i).toNat)
    case atStart=>exact ⟨0,by omega,rfl,rfl,by rw [H3.out];omega,Below.refl _ _⟩
    case round =>
     obtain ⟨p,hp,rfl,hall,hen,hbq⟩:=hrel;have HALL:=Lib.hid hall;have HEN:=Lib.hid hen;clear hall hen;obtain ⟨_,hs0q,d0,d1,d2,d3,d4⟩:=(hbx.to hbr).to hbq;have hszq:=hbq.size;have hkq:=hkr.full.below hbq;by_cases hlt : p < k.entry.length
     ·
      obtain ⟨ae,ee,hbe,hce⟩:=hkq.e.int hlt;have hE : 0 ≤ k.entry[p]:=by rw [← entryAt_eq k p hlt];exact HEN.out
      have hEf:=HEF.out _ (List.getElem_mem hlt);unfold Fits at hEf;have hbe' : (ae.add p).block < wr.heap.size:=by rw [block_of_add];omega
      have HEA:=Lib.hid (entryAt_eq k p hlt);have g1 : (0 : Int) ≤ (p : Int):=by omega
      have g2 : (p : Int) < (k.entry.length : Int):=by omega
      generalize hEq : k.entry[p] = E at *;clear hEq;by_cases hp1 : p + 1 < k.entry.length
      ·
       obtain ⟨ae',ee',hbe2,hce2⟩:=hkq.e.int hp1;have hfF:=HEF.out _ (List.getElem_mem hp1);unfold Fits at hfF;have HEP:=Lib.hid (show endP k p = k.entry[p + 1] from by rw [endP,dif_pos hp1]);have HEA2:=Lib.hid (entryAt_eq k (p + 1) hp1);obtain rfl : ae = ae':=by rw [ee] at ee';injection ee'
       have hce3 : wr.cell? ⟨ae.block,ae.off + (p + 1),none⟩ = some (.int .i64 k.entry[p + 1]):=by rw [← hce2];rfl
       clear hce2 ee';generalize k.entry[p + 1] = F at *;by_cases t1 : F ≤ E
       ·
        have t1' : decide (F ≤ E) = true:=by simpa using t1
        have HR:=Lib.hid (show rowB k p = false from by rw [rowB,HEP.out,HEA.out,decide_eq_true t1];rfl);rw [ee] at d3 ⊢;clear ee;go_wp2_with fail
        go_quiet (fail)
        go_wp2_with fail
        go_ret
        exact fin _ _ (by rw [HN.out,all_range_false hlt HR.out];simp) (below_drewN (below_trans' hb0r hbq) _)
       ·
        have t1' : decide (F ≤ E) = false:=by simpa using t1
        by_cases t2 : (k.ins.length : Int) < F
        ·
         have t2' : decide ((k.ins.length : Int) < F) = true:=by simpa using t2
         have HR:=Lib.hid (show rowB k p = false from by rw [rowB,HEP.out,decide_eq_true t2];simp);rw [ee] at d3 ⊢;clear ee;go_wp2_with fail
         go_quiet (fail)
         go_wp2_with fail
         go_ret
         exact fin _ _ (by rw [HN.out,all_range_false hlt HR.out];simp) (below_drewN (below_trans' hb0r hbq) _)
        ·
         have t2' : decide ((k.ins.length : Int) < F) = false:=by simpa using t2
         obtain ⟨m,rfl⟩ : ∃ m : Nat,F = (m : Int) + 1:=⟨(F - 1).toNat,by omega⟩
         have hmi : m < k.ins.length:=by omega
         obtain ⟨ai,A',c',ei,hbi,c0,_⟩:=hkq.i.get hmi;have hbi' : (ai.add (m * 7)).block < wr.heap.size:=by omega
         have HOP:=Lib.hid (show opAt k (((m : Int) + 1) - 1) = k.ins[m].op from by
          rw [show ((m : Int) + 1 - 1) = (m : Int) from by omega,opAt,Int.toNat_natCast,List.getElem?_eq_getElem hmi];rfl)
         rw [ee] at d3 ⊢;rw [ei] at d4 ⊢;clear ee ei;by_cases h9 : k.ins[m].op = 9
         ·
          have h9' : (k.ins[m].op != 9) = false:=by simp [h9]
          have HR:=Lib.hid (show rowB k p = true from by rw [rowB,HEP.out,HEA.out,HOP.out,decide_eq_false t1,decide_eq_false t2,decide_eq_true h9];rfl);clear h9;go_wp2_with fail
          go_quiet (fail)
          go_wp2_with fail
          go_roundw
          case rel=>exact ⟨p + 1,by omega,by go_num,by rw [all_range_succ,HALL.out,HR.out];rfl,by rw [HEA2.out];omega,below_drewN hbq _⟩
          case measure=>simp [intOf];omega
         ·
          have h9' : (k.ins[m].op != 9) = true:=by simp [h9]
          have HR:=Lib.hid (show rowB k p = false from by rw [rowB,HEP.out,HOP.out,decide_eq_false h9];simp);clear h9;go_wp2_with fail
          go_quiet (fail)
          go_wp2_with fail
          go_ret
          exact fin _ _ (by rw [HN.out,all_range_false hlt HR.out];simp) (below_drewN (below_trans' hb0r hbq) _)
      ·
       have HEP:=Lib.hid (show endP k p = k.ins.length from by rw [endP,dif_neg hp1]);by_cases t1 : (k.ins.length : Int) ≤ E
       ·
        have t1' : decide ((k.ins.length : Int) ≤ E) = true:=by simpa using t1
        have HR:=Lib.hid (show rowB k p = false from by rw [rowB,HEP.out,HEA.out,decide_eq_true t1];rfl);rw [ee] at d3 ⊢;clear ee;go_wp2_with fail
        go_quiet (fail)
        go_wp2_with fail
        go_ret
        exact fin _ _ (by rw [HN.out,all_range_false hlt HR.out];simp) (below_drewN (below_trans' hb0r hbq) _)
       ·
        have t1' : decide ((k.ins.length : Int) ≤ E) = false:=by simpa using t1
        have hmi : k.ins.length - 1 < k.ins.length:=by omega
        obtain ⟨ai,A',c',ei,hbi,c0,_⟩:=hkq.i.get hmi;have hbi' : (ai.add ((k.ins.length - 1) * 7)).block < wr.heap.size:=by omega
        have HOP:=Lib.hid (show opAt k ((k.ins.length : Int) - 1) = k.ins[k.ins.length - 1].op from by
         rw [show ((k.ins.length : Int) - 1) = ((k.ins.length - 1 : Nat) : Int) from by omega,opAt,Int.toNat_natCast,List.getElem?_eq_getElem hmi];rfl)
        rw [ee] at d3 ⊢;rw [ei] at d4 ⊢;clear ee ei;by_cases h9 : k.ins[k.ins.length - 1].op = 9
        ·
         have h9' : (k.ins[k.ins.length - 1].op != 9) = false:=by simp [h9]
         have HR:=Lib.hid (show rowB k p = true from by rw [rowB,HEP.out,HEA.out,HOP.out,decide_eq_false t1,decide_eq_true h9,decide_eq_false (by omega)];rfl);clear h9;go_wp2_with fail
         go_quiet (fail)
         go_wp2_with fail
         go_roundw
         case rel=>exact ⟨p + 1,by omega,by go_num,by rw [all_range_succ,HALL.out,HR.out];rfl,by rw [entryAt,List.getElem?_eq_none (by omega)];exact Int.le_refl 0,below_drewN hbq _⟩
         case measure=>simp [intOf];omega
        ·
         have h9' : (k.ins[k.ins.length - 1].op != 9) = true:=by simp [h9]
         have HR:=Lib.hid (show rowB k p = false from by rw [rowB,HEP.out,HOP.out,decide_eq_false h9];simp);clear h9;go_wp2_with fail
         go_quiet (fail)
         go_wp2_with fail
         go_ret
         exact fin _ _ (by rw [HN.out,all_range_false hlt HR.out];simp) (below_drewN (below_trans' hb0r hbq) _)
     ·
      go_wp2_with fail
      go_ret
      obtain rfl : p = k.entry.length:=by omega
      exact fin _ _ (by rw [HN.out,HALL.out,decide_eq_true HCN.out];rfl) (below_trans' hb0r hbq)
   ·
    have q4 : (((endsTo k k.ins.length : Nat) : Int) != (k.entry.length : Int)) = true:=by rw [bne_iff_ne];omega
    have HCN:=Lib.hid hcnt;clear hcnt;go_wp2_with fail
    go_ret
    exact fin _ _ (by rw [HN.out,decide_eq_false HCN.out];rfl) hb0r
theorem entriesRight_any {B L : Nat} (v : CV) (k : Cd) (w : World) (hk : CodeAt w B v k) (hcb : CdB L k) (hL : L ≤ 1099511627776) (h0 : 1 ≤ k.procs.length) :
  Calls Try.prog 46 #[.agg #[.slice v.gA k.globals.length v.gc, .slice v.lA k.locks.length v.lc, .slice v.pA k.procs.length v.pc, .slice v.eA k.entry.length v.ec, .slice v.iA k.ins.length v.ic]] w fun r w'=>r = .returned (.bool (entriesB k)) ∧ Below w.heap.size w w':=by
 have l1:=hcb.entry;have l2:=hcb.ins;have l3:=hcb.procs;by_cases h : k.ins.length ≤ 1500 ∧ k.entry.length = k.procs.length ∧ entryAt k 0 = 0
 · exact entriesRight_yes v k w hk hcb h0 h.1 h.2.1 h.2.2 (by omega)
 ·
  refine (entriesRight_no v k w hk h0 (by omega) (by omega) (by omega) h).mono fun r w' ⟨hr,hw⟩=>⟨?_,hw⟩
  have : entriesB k = false:=by
   unfold entriesB;by_cases h1 : k.ins.length ≤ 1500
   ·
    by_cases h2 : k.entry.length = k.procs.length
    · rw [decide_eq_false (show ¬ entryAt k 0 = 0 from fun h3=>h ⟨h1,h2,h3⟩)];simp
    · rw [decide_eq_false h2];simp
   · rw [decide_eq_false h1];simp
  rw [hr,this]
end Go.Proofs.Ytkgoajnnkimkaaa
namespace Go.Proofs.Ytkgoajnnkimkaaa
open Go.ChangeShapes Go.WideShapes Go.ChangeAt Go.RowKit
def insBat (k : Cd) (a : Nat) (b e : Int) : Bool:=match k.ins[a]? with | some x=>insB k x b e | none=>false
def partB (k : Cd) (p : Nat) : Bool:=(List.range (endP k p - entryAt k p).toNat).all fun j=>insBat k ((entryAt k p).toNat + j) (entryAt k p) (endP k p)
def codeOkI (k : Cd) : Bool:=namesB k && (entriesB k && (List.range k.entry.length).all (partB k))
theorem entriesB_parts {k : Cd} (h : entriesB k = true) : k.ins.length ≤ 1500 ∧ k.entry.length = k.procs.length ∧ entryAt k 0 = 0 ∧ endsTo k k.ins.length = k.entry.length ∧ ∀ i,i < k.entry.length → rowB k i = true:=by
 simp only [entriesB,Bool.and_eq_true,decide_eq_true_eq,List.all_eq_true,List.mem_range] at h;exact ⟨h.1,h.2.1,h.2.2.1,h.2.2.2.1,h.2.2.2.2⟩
theorem rowB_parts {k : Cd} {i : Nat} (h : rowB k i = true) : entryAt k i < endP k i ∧ endP k i ≤ k.ins.length ∧ opAt k (endP k i - 1) = 9:=by
 simp only [rowB,Bool.and_eq_true,Bool.not_eq_true',decide_eq_false_iff_not,decide_eq_true_eq] at h;exact ⟨by omega,by omega,h.2.2⟩
theorem entries_nonneg {k : Cd} (h : entriesB k = true) (i : Nat) (hi : i < k.entry.length) : 0 ≤ entryAt k i:=by
 obtain ⟨_,_,h0,_,hr⟩:=entriesB_parts h;induction i with
 | zero=>rw [h0];exact Int.le_refl 0
 | succ i ih =>
  have h1:=ih (by omega);have h2:=(rowB_parts (hr i (by omega))).1;rw [endP,dif_pos hi] at h2;rw [entryAt_eq k (i + 1) hi];omega
theorem names_proc {k : Cd} (h : namesB k = true) : 1 ≤ k.procs.length:=by
 simp only [namesB,Bool.and_eq_true,decide_eq_true_eq] at h;have hm:=h.2.2.2.2.2.2;cases hp : k.procs with
 | nil=>rw [hp] at hm;simp at hm
 | cons a l=>simp
theorem codeOk_i {B L : Nat} (v : CV) (k : Cd) (w : World) (hk : CodeAt w B v k) (hcb : CdB L k) (hL : L ≤ 1099511627776) :
  Calls Try.prog 40 #[.agg #[.slice v.gA k.globals.length v.gc, .slice v.lA k.locks.length v.lc, .slice v.pA k.procs.length v.pc, .slice v.eA k.entry.length v.ec, .slice v.iA k.ins.length v.ic]] w fun r w'=>r = .returned (.bool (codeOkI k)) ∧ Below w.heap.size w w':=by
 have hkf:=hk.full;have HN:=Lib.hid (fun W (h : CodeAt W w.heap.size v k)=>namesRight_any v k W h hcb hL);have HE:=Lib.hid (fun (h1 : namesB k = true) W (h : CodeAt W w.heap.size v k)=>entriesRight_any v k W h hcb hL (names_proc h1));have HO:=Lib.hid (show codeOkI k = (namesB k && (entriesB k && (List.range k.entry.length).all (partB k))) from rfl);have HEP:=Lib.hid (fun (p : Nat) (hp : p < k.entry.length) W (h : CodeAt W w.heap.size v k)=>endOfProc_any v k p W h (by have:=hcb.entry;omega) (by have:=hcb.entry;omega) (by have:=hcb.ins;omega));have fin : ∀ (y : Bool) w',y = codeOkI k → Below w.heap.size w w' → Ending.returned (.bool y) = .returned (.bool (codeOkI k)) ∧ Below w.heap.size w w':=fun y w' h1 h2=>⟨by rw [h1],h2⟩
 have HCB:=Lib.hid hcb;have hil:=hk.il;have helb:=hcb.entry;clear hcb
 go_enter Try.func40, Try.ntmps40
 go_wp2_with fail
 have hbx:=codeBox w v k;generalize w.alloc (.cells #[.slice v.gA k.globals.length v.gc, .slice v.lA k.locks.length v.lc, .slice v.pA k.procs.length v.pc, .slice v.eA k.entry.length v.ec, .slice v.iA k.ins.length v.ic] 45) = W at hbx ⊢;obtain ⟨hb0,hs0,b0,b1,b2,b3,b4⟩:=id hbx;refine (HN.out _ (hkf.below hb0)).mono ?_;rintro r w1 ⟨rfl,hb1⟩;have hbx1:=hbx.to hb1;obtain ⟨hb01,hs1,b0,b1,b2,b3,b4⟩:=id hbx1;cases hnm : namesB k
 ·
  have HNM:=Lib.hid hnm;clear hnm;go_wp2_with fail
  go_ret
  exact fin _ _ (by rw [HO.out,HNM.out];rfl) hb01
 have HNM:=Lib.hid hnm;clear hnm;go_wp2_with fail
 refine (HE.out HNM.out _ (hkf.below hb01)).mono ?_;rintro r w2 ⟨rfl,hb2⟩;have hbx2:=hbx1.to hb2;obtain ⟨hb02,hs2,b0,b1,b2,b3,b4⟩:=id hbx2;cases hem : entriesB k
 ·
  have HEM:=Lib.hid hem;clear hem;go_wp2_with fail
  go_ret
  exact fin _ _ (by rw [HO.out,HEM.out];simp) hb02
 have HEM:=Lib.hid hem;clear hem;have hn1500:=(entriesB_parts HEM.out).1;go_wp2_with fail
 go_loopw [19] (fun i wr=>∃ p : Nat,p ≤ k.entry.length ∧ i = .int .i64 p ∧ (List.range p).all (partB k) = true ∧ Below w2.heap.size w2 wr) (fun i _=>k.entry.length - (intOf i).toNat)
 case atStart=>exact ⟨0,by omega,rfl,rfl,Below.refl _ _⟩
 case round =>
  obtain ⟨p,hp,rfl,hall,hbr⟩:=hrel;have HALL:=Lib.hid hall;clear hall;have hbxr:=hbx2.to hbr;obtain ⟨hb0r,hsr,r0,r1,r2,r3,r4⟩:=id hbxr;by_cases hlt : p < k.entry.length
  ·
   have hkr:=hkf.below hb0r;obtain ⟨ae,ee,hbe,hce⟩:=hkr.e.int hlt;have hbe' : (ae.add p).block < wr.heap.size:=by rw [block_of_add];omega
   obtain ⟨a,ha⟩:=Int.eq_ofNat_of_zero_le (entries_nonneg HEM.out p hlt);have hrow:=rowB_parts ((entriesB_parts HEM.out).2.2.2.2 p hlt);obtain ⟨f,hf⟩ : ∃ f : Nat,endP k p = f:=⟨(endP k p).toNat,by omega⟩
   have hPB : partB k p = (List.range (f - a)).all fun j=>insBat k (a + j) a f:=by
    rw [partB,ha,hf,Int.toNat_natCast,show ((f : Int) - (a : Int)).toNat = f - a from by omega]
   rw [ha,hf] at hrow;have hab : a < f:=by omega
   have hfn : f ≤ k.ins.length:=by omega
   rw [← entryAt_eq k p hlt,ha] at hce;have HF:=Lib.hid hf;have HPB:=Lib.hid hPB;have HEE:=Lib.hid ee;rw [ee] at r3 ⊢;clear ha hrow hf hPB ee;go_wp2_with fail
   rw [← HEE.out] at r3 ⊢;refine (HEP.out p hlt _ hkr).mono ?_;rintro r w3 ⟨rfl,hb3⟩;rw [HF.out];have hbx3:=hbxr.to hb3;obtain ⟨hb03,hs3,s0,s1,s2,s3,s4⟩:=id hbx3;have hkw3:=hkf.below hb03;obtain ⟨ai,A',c',ei,hbi,_⟩:=hkw3.i.get (i:=a) (by omega);have HEI:=Lib.hid ei;rw [ei] at s4 ⊢;clear ei;have u1 : (0 : Int) ≤ (a : Int):=by omega
   have u2 : (a : Int) ≤ (f : Int):=by omega
   have u3 : (f : Int) ≤ (v.ic : Int):=by omega
   go_wp2_with fail
   rw [← HEI.out] at s4 ⊢;obtain ⟨wo,rfl⟩ : ∃ wo : World,wo = wr:=⟨_,rfl⟩
   go_loopw [33] (fun i wr=>∃ j : Nat,j ≤ f - a ∧ i = .int .i64 j ∧ (List.range j).all (fun j=>insBat k (a + j) a f) = true ∧ Below w3.heap.size w3 wr) (fun i _=>(f - a) - (intOf i).toNat)
   case atStart=>exact ⟨0,by omega,rfl,rfl,Below.refl _ _⟩
   case round =>
    obtain ⟨j,hj,rfl,hallj,hbj⟩:=hrel;have HALJ:=Lib.hid hallj;clear hallj;have hbxj:=hbx3.to hbj;obtain ⟨hb0j,hsj,t0,t1,t2,t3,t4⟩:=id hbxj;by_cases hjl : j < f - a
    ·
     have hkj:=hkf.below hb0j;have haj : a + j < k.ins.length:=by omega
     obtain ⟨ai',A2,c2,ei',hbi',m0,m1,m2,m3,m4,m5,m6,mk⟩:=hkj.i.get haj;obtain rfl : ai = ai':=by rw [HEI.out] at ei';injection ei'
     have heq : ai.add ((a + j) * 7) = (ai.add (a * 7)).add (j * 7):=by rw [add_of_add,Nat.add_mul]
     rw [heq] at hbi' m0 m1 m2 m3 m4 m5 m6;have hbi2 : ((ai.add (a * 7)).add (j * 7)).block < wr.heap.size:=by omega
     have HX:=Lib.hid (HCB.out.insB _ (List.getElem_mem haj));have HXE:=Lib.hid (show insBat k (a + j) a f = insB k k.ins[a + j] a f from by rw [insBat,List.getElem?_eq_getElem haj]);clear heq ei';generalize k.ins[a + j] = x at *;cases hxb : insB k x a f
     ·
      have HXB:=Lib.hid hxb;clear hxb;go_wp2_with fail
      have:=insRight_any v k x A2 c2 a f (wr.alloc (.cells #[.int .i64 x.op,.int .i64 x.arg,.int .i64 x.term.kind,.int .i64 x.term.num,.string x.term.name,.slice A2 x.term.kids.length c2,.int .i64 x.to] 77)) (hkj.g.full.below (below_alloc0 _ _)) (by have:=HCB.out.globals;omega) (mk.full.below (below_alloc0 _ _)) HX.out hL;refine this.mono ?_;clear this;rintro r w4 ⟨rfl,hb4⟩;rw [HXB.out];go_wp2_with fail
      go_ret
      have hpf : partB k p = false:=by rw [HPB.out];exact all_range_false hjl (by rw [HXE.out,HXB.out])
      exact fin _ _ (by rw [HO.out,all_range_false hlt hpf];simp) (below_trans' (below_alloc hb0j (Nat.le_refl _) _) hb4)
     ·
      have HXB:=Lib.hid hxb;clear hxb;go_wp2_with fail
      have:=insRight_any v k x A2 c2 a f (wr.alloc (.cells #[.int .i64 x.op,.int .i64 x.arg,.int .i64 x.term.kind,.int .i64 x.term.num,.string x.term.name,.slice A2 x.term.kids.length c2,.int .i64 x.to] 77)) (hkj.g.full.below (below_alloc0 _ _)) (by have:=HCB.out.globals;omega) (mk.full.below (below_alloc0 _ _)) HX.out hL;refine this.mono ?_;clear this;rintro r w4 ⟨rfl,hb4⟩;rw [HXB.out];go_wp2_with fail
      go_roundw
      case rel=>exact ⟨j + 1,by omega,by go_num,by rw [all_range_succ,HALJ.out,HXE.out,HXB.out];rfl,below_trans' (below_alloc hbj (Nat.le_refl _) _) hb4⟩
      case measure=>simp [intOf];omega
    ·
     go_wp2_with fail
     rw [HEE.out];go_roundw
     case rel=>exact ⟨p + 1,by omega,by go_num,by
      obtain rfl : j = f - a:=by omega
      rw [all_range_succ,HALL.out,HPB.out,HALJ.out];rfl,below_trans' (below_trans' hbr hb3) hbj⟩
     case measure=>simp [intOf];omega
  ·
   go_wp2_with fail
   go_ret
   obtain rfl : p = k.entry.length:=by omega
   exact fin _ _ (by rw [HO.out,HNM.out,HEM.out,HALL.out];rfl) hb0r
end Go.Proofs.Ytkgoajnnkimkaaa
namespace Go.Proofs.Ytkgoajnnkimkaaa
open Go.ChangeShapes Go.WideShapes Go.ChangeAt Go.RowKit
def procTo (k : Cd) (a : Nat) : Nat → Int
 | 0=>-1
 | i + 1=>if entryAt k i ≤ a then (i : Int) else procTo k a i
def procI (k : Cd) (a : Nat) : Int:=procTo k a k.entry.length
theorem procTo_lt (k : Cd) (a n : Nat) : procTo k a n < n:=by
 induction n with
 | zero=>simp [procTo]
 | succ n ih=>unfold procTo;split <;> omega
theorem procTo_nonneg {k : Cd} {a n : Nat} (h : 1 ≤ n) (h0 : entryAt k 0 ≤ a) : 0 ≤ procTo k a n:=by
 induction n with
 | zero=>omega
 | succ n ih =>
  unfold procTo;split
  · omega
  ·
   rename_i hh;cases n with
   | zero=>exact absurd h0 hh
   | succ n=>exact ih (by omega)
def riseB (k : Cd) (i : Nat) : Bool:=(if i = 0 then decide (entryAt k 0 = 0) else decide (entryAt k (i - 1) < entryAt k i)) && decide (entryAt k i < k.ins.length)
def endB (k : Cd) (i : Nat) : Bool:=decide (opAt k i = 9) == decide (endP k (procI k i).toNat - 1 = i)
def headsB (k : Cd) : Bool:=namesB k && (decide (k.entry.length = k.procs.length) && (decide (k.ins.length ≤ 1500) && ((List.range k.entry.length).all (riseB k) && (List.range k.ins.length).all (endB k))))
theorem rise_nonneg {k : Cd} {n : Nat} (h : (List.range n).all (riseB k) = true) (i : Nat) (hi : i < n) : 0 ≤ entryAt k i:=by
 rw [List.all_eq_true] at h;induction i with
 | zero =>
  have:=h 0 (List.mem_range.2 hi);simp only [riseB,if_true,Bool.and_eq_true,decide_eq_true_eq] at this;omega
 | succ i ih =>
  have h1:=ih (by omega);have:=h (i + 1) (List.mem_range.2 hi);simp only [riseB,Nat.add_one_ne_zero,if_false,Bool.and_eq_true,decide_eq_true_eq,Nat.add_sub_cancel] at this;omega
end Go.Proofs.Ytkgoajnnkimkaaa
namespace Go.Proofs.Ytkgoajnnkimkaaa
open Go.ChangeShapes Go.WideShapes Go.ChangeAt Go.RowKit
theorem namesB_parts {k : Cd} (h : namesB k = true) : areNamesB k.globals 6 = true ∧ areNamesB k.locks 6 = true ∧ areNamesB k.procs 8 = true ∧ twiceB k.globals = false ∧ twiceB k.locks = false ∧ twiceB k.procs = false ∧ mainS ∈ k.procs:=by
 simp only [namesB,Bool.and_eq_true,Bool.not_eq_true',decide_eq_true_eq] at h;exact ⟨h.1,h.2.1,h.2.2.1,h.2.2.2.1,h.2.2.2.2.1,h.2.2.2.2.2.1,h.2.2.2.2.2.2⟩
end Go.Proofs.Ytkgoajnnkimkaaa
