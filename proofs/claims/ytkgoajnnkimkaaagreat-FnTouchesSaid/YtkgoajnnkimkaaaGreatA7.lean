/- Contract of entriesRight. -/
import Derived.Test.YtkgoajnnkimkaaaGreatA6
set_option linter.unusedSimpArgs false
set_option linter.unusedVariables false
set_option maxRecDepth 100000
set_option maxHeartbeats 16000000
namespace Go.Proofs.YtkgoajnnkimkaaaGreat
open Go.ChangeShapes Go.WideShapes Go.ChangeAt Go.RowKit
def entryAt (k : Cd) (i : Nat) : Int:=(k.entry[i]?).getD 0
def opAt (k : Cd) (a : Int) : Int:=((k.ins[a.toNat]?).map Is.op).getD 0
def endsTo (k : Cd) (n : Nat) : Nat:=((k.ins.take n).filter fun x=>decide (x.op = 9)).length
def rowB (k : Cd) (i : Nat) : Bool:=!(decide (endP k i ≤ entryAt k i)) && (!(decide ((k.ins.length : Int) < endP k i)) && decide (opAt k (endP k i - 1) = 9))
def entriesB (k : Cd) : Bool:=decide (k.ins.length ≤ 1500) && (decide (k.entry.length = k.procs.length) && (decide (entryAt k 0 = 0) && (decide (endsTo k k.ins.length = k.entry.length) && (List.range k.entry.length).all (rowB k))))
theorem endsTo_succ (k : Cd) (n : Nat) (h : n < k.ins.length) : endsTo k (n + 1) = endsTo k n + (if k.ins[n].op = 9 then 1 else 0):=by
 unfold endsTo;rw [List.take_succ_eq_append_getElem h,List.filter_append,List.length_append];by_cases h9 : k.ins[n].op = 9 <;> simp [h9]
theorem endsTo_le (k : Cd) (n : Nat) : endsTo k n ≤ n:=by
 unfold endsTo;refine Nat.le_trans (List.length_filter_le _ _) ?_;rw [List.length_take];omega
theorem entryAt_eq (k : Cd) (i : Nat) (h : i < k.entry.length) : entryAt k i = k.entry[i]:=by simp [entryAt,h]
theorem all_range_succ (n : Nat) (f : Nat → Bool) : (List.range (n + 1)).all f = ((List.range n).all f && f n):=by
 rw [List.range_succ,List.all_append];simp
theorem all_range_false {n i : Nat} {f : Nat → Bool} (h : i < n) (hf : f i = false) : (List.range n).all f = false :=
 List.all_eq_false.2 ⟨i,List.mem_range.2 h,by simp [hf]⟩
theorem entriesRight_no {B : Nat} (v : CV) (k : Cd) (w : World) (hk : CodeAt w B v k) (h0 : 1 ≤ k.procs.length) (hl : k.entry.length ≤ 1099511627776) (hi : k.ins.length ≤ 1099511627776) (hp : k.procs.length ≤ 1099511627776)
  (h : ¬ (k.ins.length ≤ 1500 ∧ k.entry.length = k.procs.length ∧ entryAt k 0 = 0)) :
  Calls Tryz.prog 161 #[.agg #[.slice v.gA k.globals.length v.gc, .slice v.lA k.locks.length v.lc, .slice v.pA k.procs.length v.pc, .slice v.eA k.entry.length v.ec, .slice v.iA k.ins.length v.ic]] w fun r w'=>r = .returned (.bool false) ∧ Below w.heap.size w w':=by
 by_cases h1 : k.ins.length ≤ 1500
 ·
  have q1 : decide ((1500 : Int) < (k.ins.length : Int)) = false:=by simp;omega
  by_cases h2 : k.entry.length = k.procs.length
  ·
   have q2 : (((k.entry.length : Nat) : Int) != (k.procs.length : Int)) = false:=by rw [h2];simp
   have h3 : ¬ entryAt k 0 = 0:=fun h3=>h ⟨h1,h2,h3⟩;have hel : 0 < k.entry.length:=by omega
   rw [entryAt_eq k 0 hel] at h3;have q3 : (k.entry[0] != 0) = true:=by simpa using h3
   obtain ⟨ad,e,hb,hc⟩:=hk.e.full.int (k:=0) hel;have hc' : w.cell? ad = some (.int .i64 k.entry[0]):=by rw [← hc];rfl
   rw [e];have H2:=Lib.hid h2;clear h h2 h3 hc e
   go_enter Tryz.func161, Tryz.ntmps161
   go_wp2_with fail
   go_ret
   exact ⟨rfl,below_alloc0 _ _⟩
  ·
   have q2 : (((k.entry.length : Nat) : Int) != (k.procs.length : Int)) = true:=by rw [bne_iff_ne];omega
   go_enter Tryz.func161, Tryz.ntmps161
   go_wp2_with fail
   go_ret
   exact ⟨rfl,below_alloc0 _ _⟩
 ·
  have q1 : decide ((1500 : Int) < (k.ins.length : Int)) = true:=by simp;omega
  go_enter Tryz.func161, Tryz.ntmps161
  go_wp2_with fail
  go_ret
  exact ⟨rfl,below_alloc0 _ _⟩
theorem entriesRight_yes {B L : Nat} (v : CV) (k : Cd) (w : World) (hk : CodeAt w B v k) (hcb : CdB L k) (h0 : 1 ≤ k.procs.length) (h1 : k.ins.length ≤ 1500) (h2 : k.entry.length = k.procs.length) (h3 : entryAt k 0 = 0) (hl : k.entry.length ≤ 1099511627776) :
  Calls Tryz.prog 161 #[.agg #[.slice v.gA k.globals.length v.gc, .slice v.lA k.locks.length v.lc, .slice v.pA k.procs.length v.pc, .slice v.eA k.entry.length v.ec, .slice v.iA k.ins.length v.ic]] w fun r w'=>r = .returned (.bool (entriesB k)) ∧ Below w.heap.size w w':=by
 have HN:=Lib.hid (show entriesB k = (decide (endsTo k k.ins.length = k.entry.length) && (List.range k.entry.length).all (rowB k)) from by
  rw [entriesB,decide_eq_true h1,decide_eq_true h2,decide_eq_true h3];rfl)
 have fin : ∀ (y : Bool) w',y = entriesB k → Below w.heap.size w w' → Ending.returned (.bool y) = .returned (.bool (entriesB k)) ∧ Below w.heap.size w w':=fun y w' h1 h2=>⟨by rw [h1],h2⟩
 have q1 : decide ((1500 : Int) < (k.ins.length : Int)) = false:=by simp;omega
 have q2 : (((k.entry.length : Nat) : Int) != (k.procs.length : Int)) = false:=by rw [h2];simp
 have hel : 1 ≤ k.entry.length:=by omega
 have hkf:=hk.full;obtain ⟨ad,e,hb,hc⟩:=hkf.e.int (k:=0) hel;have H3:=Lib.hid h3;have h3' : k.entry[0] = 0:=by rw [← entryAt_eq k 0 hel];exact h3
 have hc' : w.cell? ad = some (.int .i64 0):=by rw [← h3',← hc];rfl
 have HEF:=Lib.hid hcb.entryF;have H2:=Lib.hid h2;have HE:=Lib.hid e;clear hc h3 h3' h2 hcb;rw [e];clear e
 go_enter Tryz.func161, Tryz.ntmps161
 go_wp2_with fail
 rw [← HE.out];have hbx:=codeBox w v k;generalize w.alloc (.cells #[.slice v.gA k.globals.length v.gc, .slice v.lA k.locks.length v.lc, .slice v.pA k.procs.length v.pc, .slice v.eA k.entry.length v.ec, .slice v.iA k.ins.length v.ic] 28) = W at hbx ⊢;have hb0:=hbx.1;go_loopw [3,32] (fun c i wr=>∃ n : Nat,n ≤ k.ins.length ∧ i = .int .i64 n ∧ c = .int .i64 (endsTo k n : Int) ∧ Below W.heap.size W wr) (fun _ i _=>k.ins.length - (intOf i).toNat)
 case atStart=>exact ⟨0,by omega,rfl,rfl,Below.refl _ _⟩
 case round =>
  obtain ⟨n,hn,rfl,rfl,hbr⟩:=hrel;have hle:=endsTo_le k n;have hsz:=hbr.size;by_cases hlt : n < k.ins.length
  ·
   obtain ⟨ad2,A',c',e2,hbk,c0,c1,c2,c3,c4,c5,c6,_⟩:=((hkf.i.below hb0).full.below hbr).get hlt;have hbk' : (ad2.add (n * 7)).block < wr.heap.size:=by omega
   have HS:=Lib.hid (endsTo_succ k n hlt);by_cases h9 : k.ins[n].op = 9
   ·
    have p9 : (k.ins[n].op == 9) = true:=by simp [h9]
    have H9:=Lib.hid h9;clear h9;rw [e2];clear e2;go_wp2_with fail
    go_roundw
    case rel=>exact ⟨n + 1,by omega,by go_num,by rw [HS.out,if_pos H9.out];go_num,below_alloc hbr (Nat.le_refl _) _⟩
    case measure=>simp [intOf];omega
   ·
    have p9 : (k.ins[n].op == 9) = false:=by simp [h9]
    have H9:=Lib.hid h9;clear h9;rw [e2];clear e2;go_wp2_with fail
    go_roundw
    case rel=>exact ⟨n + 1,by omega,by go_num,by rw [HS.out,if_neg H9.out];rfl,below_alloc hbr (Nat.le_refl _) _⟩
    case measure=>simp [intOf];omega
  ·
   obtain rfl : n = k.ins.length:=by omega
   obtain ⟨hb0r,hs0,b0,b1,b2,b3,b4⟩:=hbx.to hbr;have hkr:=(hkf.below hb0).full.below hbr;obtain ⟨wo,rfl⟩ : ∃ wo : World,wo = wr:=⟨_,rfl⟩
   by_cases hcnt : endsTo k k.ins.length = k.entry.length
   ·
    have q4 : (((endsTo k k.ins.length : Nat) : Int) != (k.entry.length : Int)) = false:=by rw [hcnt];simp
    have HCN:=Lib.hid hcnt;clear hcnt;go_wp2_with fail
    go_loopw [50] (fun i w2=>∃ p : Nat,p ≤ k.entry.length ∧ i = .int .i64 p ∧ (List.range p).all (rowB k) = true ∧ 0 ≤ entryAt k p ∧ Below wo.heap.size wo w2) (fun i _=>k.entry.length - (intOf i).toNat)
    case atStart=>exact ⟨0,by omega,rfl,rfl,by rw [H3.out];omega,Below.refl _ _⟩
    case round =>
     obtain ⟨p,hp,rfl,hall,hen,hbq⟩:=hrel;have HALL:=Lib.hid hall;have HEN:=Lib.hid hen;clear hall hen;obtain ⟨_,hs0q,d0,d1,d2,d3,d4⟩:=(hbx.to hbr).to hbq;have hszq:=hbq.size;have hkq:=hkr.full.below hbq;by_cases hlt : p < k.entry.length
     ·
      obtain ⟨ae,ee,hbe,hce⟩:=hkq.e.int hlt;have hE : 0 ≤ k.entry[p]:=by rw [← entryAt_eq k p hlt];exact HEN.out
      have hEf:=HEF.out _ (List.getElem_mem hlt);unfold Fits at hEf;have hbe' : (ae.add p).block < wr.heap.size:=by rw [block_of_add];omega
      have HEA:=Lib.hid (entryAt_eq k p hlt);have g1 : (0 : Int) ≤ (p : Int):=by omega
      have g2 : (p : Int) < (k.entry.length : Int):=by omega
      generalize hEq : k.entry[p] = E at *;clear hEq;by_cases hp1 : p + 1 < k.entry.length
      ·
       obtain ⟨ae',ee',hbe2,hce2⟩:=hkq.e.int hp1;have hfF:=HEF.out _ (List.getElem_mem hp1);unfold Fits at hfF;have HEP:=Lib.hid (show endP k p = k.entry[p + 1] from by rw [endP,dif_pos hp1]);have HEA2:=Lib.hid (entryAt_eq k (p + 1) hp1);obtain rfl : ae = ae':=by rw [ee] at ee';injection ee'
       have hce3 : wr.cell? ⟨ae.block,ae.off + (p + 1),none⟩ = some (.int .i64 k.entry[p + 1]):=by rw [← hce2];rfl
       clear hce2 ee';generalize k.entry[p + 1] = F at *;by_cases t1 : F ≤ E
       ·
        have t1' : decide (F ≤ E) = true:=by simpa using t1
        have HR:=Lib.hid (show rowB k p = false from by rw [rowB,HEP.out,HEA.out,decide_eq_true t1];rfl);rw [ee] at d3 ⊢;clear ee;go_wp2_with fail
        go_quiet (fail)
        go_wp2_with fail
        go_ret
        exact fin _ _ (by rw [HN.out,all_range_false hlt HR.out];simp) (below_drewN (below_trans' hb0r hbq) _)
       ·
        have t1' : decide (F ≤ E) = false:=by simpa using t1
        by_cases t2 : (k.ins.length : Int) < F
        ·
         have t2' : decide ((k.ins.length : Int) < F) = true:=by simpa using t2
         have HR:=Lib.hid (show rowB k p = false from by rw [rowB,HEP.out,decide_eq_true t2];simp);rw [ee] at d3 ⊢;clear ee;go_wp2_with fail
         go_quiet (fail)
         go_wp2_with fail
         go_ret
         exact fin _ _ (by rw [HN.out,all_range_false hlt HR.out];simp) (below_drewN (below_trans' hb0r hbq) _)
        ·
         have t2' : decide ((k.ins.length : Int) < F) = false:=by simpa using t2
         obtain ⟨m,rfl⟩ : ∃ m : Nat,F = (m : Int) + 1:=⟨(F - 1).toNat,by omega⟩
         have hmi : m < k.ins.length:=by omega
         obtain ⟨ai,A',c',ei,hbi,c0,_⟩:=hkq.i.get hmi;have hbi' : (ai.add (m * 7)).block < wr.heap.size:=by omega
         have HOP:=Lib.hid (show opAt k (((m : Int) + 1) - 1) = k.ins[m].op from by
          rw [show ((m : Int) + 1 - 1) = (m : Int) from by omega,opAt,Int.toNat_natCast,List.getElem?_eq_getElem hmi];rfl)
         rw [ee] at d3 ⊢;rw [ei] at d4 ⊢;clear ee ei;by_cases h9 : k.ins[m].op = 9
         ·
          have h9' : (k.ins[m].op != 9) = false:=by simp [h9]
          have HR:=Lib.hid (show rowB k p = true from by rw [rowB,HEP.out,HEA.out,HOP.out,decide_eq_false t1,decide_eq_false t2,decide_eq_true h9];rfl);clear h9;go_wp2_with fail
          go_quiet (fail)
          go_wp2_with fail
          go_roundw
          case rel=>exact ⟨p + 1,by omega,by go_num,by rw [all_range_succ,HALL.out,HR.out];rfl,by rw [HEA2.out];omega,below_drewN hbq _⟩
          case measure=>simp [intOf];omega
         ·
          have h9' : (k.ins[m].op != 9) = true:=by simp [h9]
          have HR:=Lib.hid (show rowB k p = false from by rw [rowB,HEP.out,HOP.out,decide_eq_false h9];simp);clear h9;go_wp2_with fail
          go_quiet (fail)
          go_wp2_with fail
          go_ret
          exact fin _ _ (by rw [HN.out,all_range_false hlt HR.out];simp) (below_drewN (below_trans' hb0r hbq) _)
      ·
       have HEP:=Lib.hid (show endP k p = k.ins.length from by rw [endP,dif_neg hp1]);by_cases t1 : (k.ins.length : Int) ≤ E
       ·
        have t1' : decide ((k.ins.length : Int) ≤ E) = true:=by simpa using t1
        have HR:=Lib.hid (show rowB k p = false from by rw [rowB,HEP.out,HEA.out,decide_eq_true t1];rfl);rw [ee] at d3 ⊢;clear ee;go_wp2_with fail
        go_quiet (fail)
        go_wp2_with fail
        go_ret
        exact fin _ _ (by rw [HN.out,all_range_false hlt HR.out];simp) (below_drewN (below_trans' hb0r hbq) _)
       ·
        have t1' : decide ((k.ins.length : Int) ≤ E) = false:=by simpa using t1
        have hmi : k.ins.length - 1 < k.ins.length:=by omega
        obtain ⟨ai,A',c',ei,hbi,c0,_⟩:=hkq.i.get hmi;have hbi' : (ai.add ((k.ins.length - 1) * 7)).block < wr.heap.size:=by omega
        have HOP:=Lib.hid (show opAt k ((k.ins.length : Int) - 1) = k.ins[k.ins.length - 1].op from by
         rw [show ((k.ins.length : Int) - 1) = ((k.ins.length - 1 : Nat) : Int) from by omega,opAt,Int.toNat_natCast,List.getElem?_eq_getElem hmi];rfl)
        rw [ee] at d3 ⊢;rw [ei] at d4 ⊢;clear ee ei;by_cases h9 : k.ins[k.ins.length - 1].op = 9
        ·
         have h9' : (k.ins[k.ins.length - 1].op != 9) = false:=by simp [h9]
         have HR:=Lib.hid (show rowB k p = true from by rw [rowB,HEP.out,HEA.out,HOP.out,decide_eq_false t1,decide_eq_true h9,decide_eq_false (by omega)];rfl);clear h9;go_wp2_with fail
         go_quiet (fail)
         go_wp2_with fail
         go_roundw
         case rel=>exact ⟨p + 1,by omega,by go_num,by rw [all_range_succ,HALL.out,HR.out];rfl,by rw [entryAt,List.getElem?_eq_none (by omega)];exact Int.le_refl 0,below_drewN hbq _⟩
         case measure=>simp [intOf];omega
        ·
         have h9' : (k.ins[k.ins.length - 1].op != 9) = true:=by simp [h9]
         have HR:=Lib.hid (show rowB k p = false from by rw [rowB,HEP.out,HOP.out,decide_eq_false h9];simp);clear h9;go_wp2_with fail
         go_quiet (fail)
         go_wp2_with fail
         go_ret
         exact fin _ _ (by rw [HN.out,all_range_false hlt HR.out];simp) (below_drewN (below_trans' hb0r hbq) _)
     ·
      go_wp2_with fail
      go_ret
      obtain rfl : p = k.entry.length:=by omega
      exact fin _ _ (by rw [HN.out,HALL.out,decide_eq_true HCN.out];rfl) (below_trans' hb0r hbq)
   ·
    have q4 : (((endsTo k k.ins.length : Nat) : Int) != (k.entry.length : Int)) = true:=by rw [bne_iff_ne];omega
    have HCN:=Lib.hid hcnt;clear hcnt;go_wp2_with fail
    go_ret
    exact fin _ _ (by rw [HN.out,decide_eq_false HCN.out];rfl) hb0r
theorem entriesRight_any {B L : Nat} (v : CV) (k : Cd) (w : World) (hk : CodeAt w B v k) (hcb : CdB L k) (hL : L ≤ 1099511627776) (h0 : 1 ≤ k.procs.length) :
  Calls Tryz.prog 161 #[.agg #[.slice v.gA k.globals.length v.gc, .slice v.lA k.locks.length v.lc, .slice v.pA k.procs.length v.pc, .slice v.eA k.entry.length v.ec, .slice v.iA k.ins.length v.ic]] w fun r w'=>r = .returned (.bool (entriesB k)) ∧ Below w.heap.size w w':=by
 have l1:=hcb.entry;have l2:=hcb.ins;have l3:=hcb.procs;by_cases h : k.ins.length ≤ 1500 ∧ k.entry.length = k.procs.length ∧ entryAt k 0 = 0
 · exact entriesRight_yes v k w hk hcb h0 h.1 h.2.1 h.2.2 (by omega)
 ·
  refine (entriesRight_no v k w hk h0 (by omega) (by omega) (by omega) h).mono fun r w' ⟨hr,hw⟩=>⟨?_,hw⟩
  have : entriesB k = false:=by
   unfold entriesB;by_cases h1 : k.ins.length ≤ 1500
   ·
    by_cases h2 : k.entry.length = k.procs.length
    · rw [decide_eq_false (show ¬ entryAt k 0 = 0 from fun h3=>h ⟨h1,h2,h3⟩)];simp
    · rw [decide_eq_false h2];simp
   · rw [decide_eq_false h1];simp
  rw [hr,this]
end Go.Proofs.YtkgoajnnkimkaaaGreat
namespace Go.Proofs.YtkgoajnnkimkaaaGreat
open Go.ChangeShapes Go.WideShapes Go.ChangeAt Go.RowKit
def insBat (k : Cd) (a : Nat) (b e : Int) : Bool:=match k.ins[a]? with | some x=>insB k x b e | none=>false
def partB (k : Cd) (p : Nat) : Bool:=(List.range (endP k p - entryAt k p).toNat).all fun j=>insBat k ((entryAt k p).toNat + j) (entryAt k p) (endP k p)
def codeOkI (k : Cd) : Bool:=namesB k && (entriesB k && (List.range k.entry.length).all (partB k))
theorem entriesB_parts {k : Cd} (h : entriesB k = true) : k.ins.length ≤ 1500 ∧ k.entry.length = k.procs.length ∧ entryAt k 0 = 0 ∧ endsTo k k.ins.length = k.entry.length ∧ ∀ i,i < k.entry.length → rowB k i = true:=by
 simp only [entriesB,Bool.and_eq_true,decide_eq_true_eq,List.all_eq_true,List.mem_range] at h;exact ⟨h.1,h.2.1,h.2.2.1,h.2.2.2.1,h.2.2.2.2⟩
theorem rowB_parts {k : Cd} {i : Nat} (h : rowB k i = true) : entryAt k i < endP k i ∧ endP k i ≤ k.ins.length ∧ opAt k (endP k i - 1) = 9:=by
 simp only [rowB,Bool.and_eq_true,Bool.not_eq_true',decide_eq_false_iff_not,decide_eq_true_eq] at h;exact ⟨by omega,by omega,h.2.2⟩
theorem entries_nonneg {k : Cd} (h : entriesB k = true) (i : Nat) (hi : i < k.entry.length) : 0 ≤ entryAt k i:=by
 obtain ⟨_,_,h0,_,hr⟩:=entriesB_parts h;induction i with
 | zero=>rw [h0];exact Int.le_refl 0
 | succ i ih =>
  have h1:=ih (by omega);have h2:=(rowB_parts (hr i (by omega))).1;rw [endP,dif_pos hi] at h2;rw [entryAt_eq k (i + 1) hi];omega
theorem names_proc {k : Cd} (h : namesB k = true) : 1 ≤ k.procs.length:=by
 simp only [namesB,Bool.and_eq_true,decide_eq_true_eq] at h;have hm:=h.2.2.2.2.2.2;cases hp : k.procs with
 | nil=>rw [hp] at hm;simp at hm
 | cons a l=>simp
theorem codeOk_i {B L : Nat} (v : CV) (k : Cd) (w : World) (hk : CodeAt w B v k) (hcb : CdB L k) (hL : L ≤ 1099511627776) :
  Calls Tryz.prog 95 #[.agg #[.slice v.gA k.globals.length v.gc, .slice v.lA k.locks.length v.lc, .slice v.pA k.procs.length v.pc, .slice v.eA k.entry.length v.ec, .slice v.iA k.ins.length v.ic]] w fun r w'=>r = .returned (.bool (codeOkI k)) ∧ Below w.heap.size w w':=by
 have hkf:=hk.full;have HN:=Lib.hid (fun W (h : CodeAt W w.heap.size v k)=>namesRight_any v k W h hcb hL);have HE:=Lib.hid (fun (h1 : namesB k = true) W (h : CodeAt W w.heap.size v k)=>entriesRight_any v k W h hcb hL (names_proc h1));have HO:=Lib.hid (show codeOkI k = (namesB k && (entriesB k && (List.range k.entry.length).all (partB k))) from rfl);have HEP:=Lib.hid (fun (p : Nat) (hp : p < k.entry.length) W (h : CodeAt W w.heap.size v k)=>endOfProc_any v k p W h (by have:=hcb.entry;omega) (by have:=hcb.entry;omega) (by have:=hcb.ins;omega));have fin : ∀ (y : Bool) w',y = codeOkI k → Below w.heap.size w w' → Ending.returned (.bool y) = .returned (.bool (codeOkI k)) ∧ Below w.heap.size w w':=fun y w' h1 h2=>⟨by rw [h1],h2⟩
 have HCB:=Lib.hid hcb;have hil:=hk.il;have helb:=hcb.entry;clear hcb
 go_enter Tryz.func95, Tryz.ntmps95
 go_wp2_with fail
 have hbx:=codeBox w v k;generalize w.alloc (.cells #[.slice v.gA k.globals.length v.gc, .slice v.lA k.locks.length v.lc, .slice v.pA k.procs.length v.pc, .slice v.eA k.entry.length v.ec, .slice v.iA k.ins.length v.ic] 28) = W at hbx ⊢;obtain ⟨hb0,hs0,b0,b1,b2,b3,b4⟩:=id hbx;refine (HN.out _ (hkf.below hb0)).mono ?_;rintro r w1 ⟨rfl,hb1⟩;have hbx1:=hbx.to hb1;obtain ⟨hb01,hs1,b0,b1,b2,b3,b4⟩:=id hbx1;cases hnm : namesB k
 ·
  have HNM:=Lib.hid hnm;clear hnm;go_wp2_with fail
  go_ret
  exact fin _ _ (by rw [HO.out,HNM.out];rfl) hb01
 have HNM:=Lib.hid hnm;clear hnm;go_wp2_with fail
 refine (HE.out HNM.out _ (hkf.below hb01)).mono ?_;rintro r w2 ⟨rfl,hb2⟩;have hbx2:=hbx1.to hb2;obtain ⟨hb02,hs2,b0,b1,b2,b3,b4⟩:=id hbx2;cases hem : entriesB k
 ·
  have HEM:=Lib.hid hem;clear hem;go_wp2_with fail
  go_ret
  exact fin _ _ (by rw [HO.out,HEM.out];simp) hb02
 have HEM:=Lib.hid hem;clear hem;have hn1500:=(entriesB_parts HEM.out).1;go_wp2_with fail
 go_loopw [19] (fun i wr=>∃ p : Nat,p ≤ k.entry.length ∧ i = .int .i64 p ∧ (List.range p).all (partB k) = true ∧ Below w2.heap.size w2 wr) (fun i _=>k.entry.length - (intOf i).toNat)
 case atStart=>exact ⟨0,by omega,rfl,rfl,Below.refl _ _⟩
 case round =>
  obtain ⟨p,hp,rfl,hall,hbr⟩:=hrel;have HALL:=Lib.hid hall;clear hall;have hbxr:=hbx2.to hbr;obtain ⟨hb0r,hsr,r0,r1,r2,r3,r4⟩:=id hbxr;by_cases hlt : p < k.entry.length
  ·
   have hkr:=hkf.below hb0r;obtain ⟨ae,ee,hbe,hce⟩:=hkr.e.int hlt;have hbe' : (ae.add p).block < wr.heap.size:=by rw [block_of_add];omega
   obtain ⟨a,ha⟩:=Int.eq_ofNat_of_zero_le (entries_nonneg HEM.out p hlt);have hrow:=rowB_parts ((entriesB_parts HEM.out).2.2.2.2 p hlt);obtain ⟨f,hf⟩ : ∃ f : Nat,endP k p = f:=⟨(endP k p).toNat,by omega⟩
   have hPB : partB k p = (List.range (f - a)).all fun j=>insBat k (a + j) a f:=by
    rw [partB,ha,hf,Int.toNat_natCast,show ((f : Int) - (a : Int)).toNat = f - a from by omega]
   rw [ha,hf] at hrow;have hab : a < f:=by omega
   have hfn : f ≤ k.ins.length:=by omega
   rw [← entryAt_eq k p hlt,ha] at hce;have HF:=Lib.hid hf;have HPB:=Lib.hid hPB;have HEE:=Lib.hid ee;rw [ee] at r3 ⊢;clear ha hrow hf hPB ee;go_wp2_with fail
   rw [← HEE.out] at r3 ⊢;refine (HEP.out p hlt _ hkr).mono ?_;rintro r w3 ⟨rfl,hb3⟩;rw [HF.out];have hbx3:=hbxr.to hb3;obtain ⟨hb03,hs3,s0,s1,s2,s3,s4⟩:=id hbx3;have hkw3:=hkf.below hb03;obtain ⟨ai,A',c',ei,hbi,_⟩:=hkw3.i.get (i:=a) (by omega);have HEI:=Lib.hid ei;rw [ei] at s4 ⊢;clear ei;have u1 : (0 : Int) ≤ (a : Int):=by omega
   have u2 : (a : Int) ≤ (f : Int):=by omega
   have u3 : (f : Int) ≤ (v.ic : Int):=by omega
   go_wp2_with fail
   rw [← HEI.out] at s4 ⊢;obtain ⟨wo,rfl⟩ : ∃ wo : World,wo = wr:=⟨_,rfl⟩
   go_loopw [33] (fun i wr=>∃ j : Nat,j ≤ f - a ∧ i = .int .i64 j ∧ (List.range j).all (fun j=>insBat k (a + j) a f) = true ∧ Below w3.heap.size w3 wr) (fun i _=>(f - a) - (intOf i).toNat)
   case atStart=>exact ⟨0,by omega,rfl,rfl,Below.refl _ _⟩
   case round =>
    obtain ⟨j,hj,rfl,hallj,hbj⟩:=hrel;have HALJ:=Lib.hid hallj;clear hallj;have hbxj:=hbx3.to hbj;obtain ⟨hb0j,hsj,t0,t1,t2,t3,t4⟩:=id hbxj;by_cases hjl : j < f - a
    ·
     have hkj:=hkf.below hb0j;have haj : a + j < k.ins.length:=by omega
     obtain ⟨ai',A2,c2,ei',hbi',m0,m1,m2,m3,m4,m5,m6,mk⟩:=hkj.i.get haj;obtain rfl : ai = ai':=by rw [HEI.out] at ei';injection ei'
     have heq : ai.add ((a + j) * 7) = (ai.add (a * 7)).add (j * 7):=by rw [add_of_add,Nat.add_mul]
     rw [heq] at hbi' m0 m1 m2 m3 m4 m5 m6;have hbi2 : ((ai.add (a * 7)).add (j * 7)).block < wr.heap.size:=by omega
     have HX:=Lib.hid (HCB.out.insB _ (List.getElem_mem haj));have HXE:=Lib.hid (show insBat k (a + j) a f = insB k k.ins[a + j] a f from by rw [insBat,List.getElem?_eq_getElem haj]);clear heq ei';generalize k.ins[a + j] = x at *;cases hxb : insB k x a f
     ·
      have HXB:=Lib.hid hxb;clear hxb;go_wp2_with fail
      have:=insRight_any v k x A2 c2 a f (wr.alloc (.cells #[.int .i64 x.op,.int .i64 x.arg,.int .i64 x.term.kind,.int .i64 x.term.num,.string x.term.name,.slice A2 x.term.kids.length c2,.int .i64 x.to] 52)) (hkj.g.full.below (below_alloc0 _ _)) (by have:=HCB.out.globals;omega) (mk.full.below (below_alloc0 _ _)) HX.out hL;refine this.mono ?_;clear this;rintro r w4 ⟨rfl,hb4⟩;rw [HXB.out];go_wp2_with fail
      go_ret
      have hpf : partB k p = false:=by rw [HPB.out];exact all_range_false hjl (by rw [HXE.out,HXB.out])
      exact fin _ _ (by rw [HO.out,all_range_false hlt hpf];simp) (below_trans' (below_alloc hb0j (Nat.le_refl _) _) hb4)
     ·
      have HXB:=Lib.hid hxb;clear hxb;go_wp2_with fail
      have:=insRight_any v k x A2 c2 a f (wr.alloc (.cells #[.int .i64 x.op,.int .i64 x.arg,.int .i64 x.term.kind,.int .i64 x.term.num,.string x.term.name,.slice A2 x.term.kids.length c2,.int .i64 x.to] 52)) (hkj.g.full.below (below_alloc0 _ _)) (by have:=HCB.out.globals;omega) (mk.full.below (below_alloc0 _ _)) HX.out hL;refine this.mono ?_;clear this;rintro r w4 ⟨rfl,hb4⟩;rw [HXB.out];go_wp2_with fail
      go_roundw
      case rel=>exact ⟨j + 1,by omega,by go_num,by rw [all_range_succ,HALJ.out,HXE.out,HXB.out];rfl,below_trans' (below_alloc hbj (Nat.le_refl _) _) hb4⟩
      case measure=>simp [intOf];omega
    ·
     go_wp2_with fail
     rw [HEE.out];go_roundw
     case rel=>exact ⟨p + 1,by omega,by go_num,by
      obtain rfl : j = f - a:=by omega
      rw [all_range_succ,HALL.out,HPB.out,HALJ.out];rfl,below_trans' (below_trans' hbr hb3) hbj⟩
     case measure=>simp [intOf];omega
  ·
   go_wp2_with fail
   go_ret
   obtain rfl : p = k.entry.length:=by omega
   exact fin _ _ (by rw [HO.out,HNM.out,HEM.out,HALL.out];rfl) hb0r
end Go.Proofs.YtkgoajnnkimkaaaGreat
namespace Go.Proofs.YtkgoajnnkimkaaaGreat
open Go.ChangeShapes Go.WideShapes Go.ChangeAt Go.RowKit
def procTo (k : Cd) (a : Nat) : Nat → Int
 | 0=>-1
 | i + 1=>if entryAt k i ≤ a then (i : Int) else procTo k a i
def procI (k : Cd) (a : Nat) : Int:=procTo k a k.entry.length
theorem procTo_lt (k : Cd) (a n : Nat) : procTo k a n < n:=by
 induction n with
 | zero=>simp [procTo]
 | succ n ih=>unfold procTo;split <;> omega
theorem procTo_nonneg {k : Cd} {a n : Nat} (h : 1 ≤ n) (h0 : entryAt k 0 ≤ a) : 0 ≤ procTo k a n:=by
 induction n with
 | zero=>omega
 | succ n ih =>
  unfold procTo;split
  · omega
  ·
   rename_i hh;cases n with
   | zero=>exact absurd h0 hh
   | succ n=>exact ih (by omega)
theorem l08Proc_any {B : Nat} (v : CV) (k : Cd) (a : Nat) (w : World) (hk : CodeAt w B v k) (hl : k.entry.length ≤ 1099511627776) (ha : a ≤ 1099511627776) :
  Calls Tryz.prog 115 #[.agg #[.slice v.gA k.globals.length v.gc, .slice v.lA k.locks.length v.lc, .slice v.pA k.procs.length v.pc, .slice v.eA k.entry.length v.ec, .slice v.iA k.ins.length v.ic],.int .i64 a] w fun r w'=>r = .returned (.int .i64 (procI k a)) ∧ Below w.heap.size w w':=by
 have hkf:=hk.full
 go_enter Tryz.func115, Tryz.ntmps115
 go_wp2_with fail
 have hbx:=codeBox w v k;generalize w.alloc (.cells #[.slice v.gA k.globals.length v.gc, .slice v.lA k.locks.length v.lc, .slice v.pA k.procs.length v.pc, .slice v.eA k.entry.length v.ec, .slice v.iA k.ins.length v.ic] 28) = W at hbx ⊢;obtain ⟨hb0,hs0,b0,b1,b2,b3,b4⟩:=id hbx;have hkw:=hkf.below hb0;go_loop [5] (fun i=>∃ n : Nat,n ≤ k.entry.length ∧ i = .int .i64 ((n : Int) - 1) ∧ procI k a = procTo k a n) (fun i=>(intOf i + 1).toNat)
 case atStart=>exact ⟨k.entry.length,Nat.le_refl _,rfl,rfl⟩
 case round =>
  obtain ⟨n,hn,rfl,hpr⟩:=hrel;have HP:=Lib.hid hpr;clear hpr;cases n with
  | zero =>
   have e : ((0 : Nat) : Int) - 1 = -1:=rfl;rw [e];clear e;go_wp2_with fail
   go_ret
   exact ⟨ret_int HP.out.symm,hb0⟩
  | succ i =>
   have e : ((i + 1 : Nat) : Int) - 1 = (i : Int):=by omega
   rw [e];clear e;have hlt : i < k.entry.length:=by omega
   obtain ⟨ae,ee,hbe,hce⟩:=hkw.e.int hlt;have hbe' : (ae.add i).block < W.heap.size:=by rw [block_of_add];omega
   rw [← entryAt_eq k i hlt] at hce;have HT:=Lib.hid (show procTo k a (i + 1) = if entryAt k i ≤ a then (i : Int) else procTo k a i from rfl);generalize entryAt k i = E at *;rw [ee] at b3 ⊢;clear ee;by_cases hE : E ≤ a
   ·
    go_wp2_with fail
    go_ret
    exact ⟨ret_int (by rw [HP.out,HT.out,if_pos hE]),hb0⟩
   ·
    go_wp2_with fail
    go_round
    case rel=>exact ⟨i,by omega,rfl,by rw [HP.out,HT.out,if_neg hE]⟩
    case measure=>first | (simp [intOf];done) | (simp [intOf];omega)
theorem l08End_any {B L : Nat} (v : CV) (k : Cd) (p : Nat) (w : World) (hk : CodeAt w B v k) (hcb : CdB L k) (hL : L ≤ 1099511627776) (hp : p ≤ 1099511627776) (h0 : p + 1 < k.entry.length → 0 ≤ entryAt k (p + 1)) :
  Calls Tryz.prog 93 #[.agg #[.slice v.gA k.globals.length v.gc, .slice v.lA k.locks.length v.lc, .slice v.pA k.procs.length v.pc, .slice v.eA k.entry.length v.ec, .slice v.iA k.ins.length v.ic],.int .i64 p] w fun r w'=>r = .returned (.int .i64 (endP k p - 1)) ∧ Below w.heap.size w w':=by
 have l1:=hcb.entry;have l2:=hcb.ins;by_cases h : p + 1 < k.entry.length
 ·
  have HE:=Lib.hid (show endP k p = k.entry[p + 1] from by rw [endP,dif_pos h]);have hnn:=h0 h;rw [entryAt_eq k _ h] at hnn;have hfit:=hcb.entryF _ (List.getElem_mem h);unfold Fits at hfit;obtain ⟨ad,e,hb,hc⟩:=hk.e.full.int h;have hc' : w.cell? ⟨ad.block,ad.off + (p + 1),none⟩ = some (.int .i64 k.entry[p + 1]):=by rw [← hc];rfl
  rw [e];clear e hc h0;generalize k.entry[p + 1] = F at *
  go_enter Tryz.func93, Tryz.ntmps93
  go_wp2_with fail
  go_ret
  exact ⟨ret_int (by rw [HE.out]),below_alloc0 _ _⟩
 ·
  have HE:=Lib.hid (show endP k p = k.ins.length from by rw [endP,dif_neg h])
  go_enter Tryz.func93, Tryz.ntmps93
  go_wp2_with fail
  go_ret
  exact ⟨ret_int (by rw [HE.out]),below_alloc0 _ _⟩
def riseB (k : Cd) (i : Nat) : Bool:=(if i = 0 then decide (entryAt k 0 = 0) else decide (entryAt k (i - 1) < entryAt k i)) && decide (entryAt k i < k.ins.length)
def endB (k : Cd) (i : Nat) : Bool:=decide (opAt k i = 9) == decide (endP k (procI k i).toNat - 1 = i)
def headsB (k : Cd) : Bool:=namesB k && (decide (k.entry.length = k.procs.length) && (decide (k.ins.length ≤ 1500) && ((List.range k.entry.length).all (riseB k) && (List.range k.ins.length).all (endB k))))
theorem rise_nonneg {k : Cd} {n : Nat} (h : (List.range n).all (riseB k) = true) (i : Nat) (hi : i < n) : 0 ≤ entryAt k i:=by
 rw [List.all_eq_true] at h;induction i with
 | zero =>
  have:=h 0 (List.mem_range.2 hi);simp only [riseB,if_true,Bool.and_eq_true,decide_eq_true_eq] at this;omega
 | succ i ih =>
  have h1:=ih (by omega);have:=h (i + 1) (List.mem_range.2 hi);simp only [riseB,Nat.add_one_ne_zero,if_false,Bool.and_eq_true,decide_eq_true_eq,Nat.add_sub_cancel] at this;omega
theorem l08Heads_names {B L : Nat} (v : CV) (k : Cd) (w : World) (hk : CodeAt w B v k) (hb : CdB L k) (hL : L ≤ 1099511627776) (hno : (namesB k && (decide (k.entry.length = k.procs.length) && decide (k.ins.length ≤ 1500))) = false) :
  Calls Tryz.prog 156 #[.agg #[.slice v.gA k.globals.length v.gc, .slice v.lA k.locks.length v.lc, .slice v.pA k.procs.length v.pc, .slice v.eA k.entry.length v.ec, .slice v.iA k.ins.length v.ic]] w fun e w'=>e = .returned (.bool false) ∧ Below w.heap.size w w':=by
 have hgS : ∀ s ∈ k.globals,s.size ≤ 1099511627776:=fun s hs=>by have:=hb.globalsS s hs;omega
 have hlS : ∀ s ∈ k.locks,s.size ≤ 1099511627776:=fun s hs=>by have:=hb.locksS s hs;omega
 have hpS : ∀ s ∈ k.procs,s.size ≤ 1099511627776:=fun s hs=>by have:=hb.procsS s hs;omega
 have n1:=hb.globals;have n2:=hb.locks;have n3:=hb.procs;have n4:=hb.entry;have n5:=hb.ins;have i1:=hk.gl;have i2:=hk.ll;have i3:=hk.pl;have hk:=hk.full;have HG:=Lib.hid (fun W (h : Rd W w.heap.size v.gA (k.globals.map sv))=>l05Names_any v.gA v.gc k.globals 6 W h (by omega) (by omega) hgS);have HLk:=Lib.hid (fun W (h : Rd W w.heap.size v.lA (k.locks.map sv))=>l05Names_any v.lA v.lc k.locks 6 W h (by omega) (by omega) hlS);have HP:=Lib.hid (fun W (h : Rd W w.heap.size v.pA (k.procs.map sv))=>l05Names_any v.pA v.pc k.procs 8 W h (by omega) (by omega) hpS);have HG2:=Lib.hid (fun W (h : Rd W w.heap.size v.gA (k.globals.map sv))=>l07Twice_any v.gA v.gc k.globals W h (by omega) i1);have HL2:=Lib.hid (fun W (h : Rd W w.heap.size v.lA (k.locks.map sv))=>l07Twice_any v.lA v.lc k.locks W h (by omega) i2);have HP2:=Lib.hid (fun W (h : Rd W w.heap.size v.pA (k.procs.map sv))=>l07Twice_any v.pA v.pc k.procs W h (by omega) i3);have HP3:=Lib.hid (fun W (h : Rd W w.heap.size v.pA (k.procs.map sv))=>placeOf_s v.pA v.pc k.procs mainS W h (by omega));have HPL : Hid (decide (placeOf k.procs mainS < 0) = !decide (mainS ∈ k.procs)):=by
  by_cases hm : mainS ∈ k.procs
  · rw [placeOf,if_pos hm,decide_eq_true hm,decide_eq_false (by omega)];exact rfl
  · rw [placeOf,if_neg hm,decide_eq_false hm];exact rfl
 have HN:=Lib.hid hno;unfold namesB at HN;clear hgS hlS hpS hb hno;have hbx:=codeBox w v k;generalize areNamesB k.globals 6 = x1 at HN HG;generalize areNamesB k.locks 6 = x2 at HN HLk;generalize areNamesB k.procs 8 = x3 at HN HP;generalize twiceB k.globals = x4 at HN HG2;generalize twiceB k.locks = x5 at HN HL2;generalize twiceB k.procs = x6 at HN HP2;generalize decide (mainS ∈ k.procs) = x7 at HN HPL;generalize placeOf k.procs mainS = pm at HP3 HPL;have q8 : (decide (k.entry.length = k.procs.length) = true ∧ (((k.entry.length : Nat) : Int) != (k.procs.length : Int)) = false) ∨ (decide (k.entry.length = k.procs.length) = false ∧ (((k.entry.length : Nat) : Int) != (k.procs.length : Int)) = true):=by
  by_cases h : k.entry.length = k.procs.length
  · left;exact ⟨decide_eq_true h,by rw [h];simp⟩
  · right;exact ⟨decide_eq_false h,by rw [bne_iff_ne];omega⟩
 have q9 : (decide (k.ins.length ≤ 1500) = true ∧ decide ((1500 : Int) < (k.ins.length : Int)) = false) ∨ (decide (k.ins.length ≤ 1500) = false ∧ decide ((1500 : Int) < (k.ins.length : Int)) = true):=by
  by_cases h : k.ins.length ≤ 1500
  · left;exact ⟨decide_eq_true h,by simp;omega⟩
  · right;exact ⟨decide_eq_false h,by simp;omega⟩
 generalize decide (k.entry.length = k.procs.length) = y8 at q8 HN;generalize decide (k.ins.length ≤ 1500) = y9 at q9 HN;have Q8:=Lib.hid q8;have Q9:=Lib.hid q9;clear q8 q9
 go_enter Tryz.func156, Tryz.ntmps156
 go_wp2_with fail
 generalize w.alloc (.cells #[.slice v.gA k.globals.length v.gc, .slice v.lA k.locks.length v.lc, .slice v.pA k.procs.length v.pc, .slice v.eA k.entry.length v.ec, .slice v.iA k.ins.length v.ic] 28) = W at hbx ⊢;obtain ⟨hb0,hs0,b0,b1,b2,b3,b4⟩:=id hbx;have hkw:=hk.below hb0;have hg:=hkw.g;have hl:=hkw.l;have hp:=hkw.p;refine (HG.out _ hg).mono ?_;rintro e w' ⟨rfl,rfl⟩;cases x1
 ·
  go_wp2_with fail
  go_ret
  exact ⟨rfl,hb0⟩
 go_wp2_with fail
 refine (HLk.out _ hl).mono ?_;rintro e w' ⟨rfl,rfl⟩;cases x2
 ·
  go_wp2_with fail
  go_ret
  exact ⟨rfl,hb0⟩
 go_wp2_with fail
 refine (HP.out _ hp).mono ?_;rintro e w' ⟨rfl,rfl⟩;cases x3
 ·
  go_wp2_with fail
  go_ret
  exact ⟨rfl,hb0⟩
 go_wp2_with fail
 refine (HG2.out _ hg).mono ?_;rintro e w4 ⟨rfl,hd4⟩;obtain ⟨hb04,hs4,c0,c1,c2,c3,c4⟩:=id (hbx.to (hd4.below _));cases x4
 case true =>
  go_wp2_with fail
  go_ret
  exact ⟨rfl,hb04⟩
 go_wp2_with fail
 refine (HL2.out _ (hd4.rd hl)).mono ?_;rintro e w5 ⟨rfl,hd5⟩;have hd05:=hd4.trans hd5;obtain ⟨hb05,hs5,d0,d1,d2,d3,d4⟩:=id (hbx.to (hd05.below _));cases x5
 case true =>
  go_wp2_with fail
  go_ret
  exact ⟨rfl,hb05⟩
 go_wp2_with fail
 refine (HP2.out _ (hd05.rd hp)).mono ?_;rintro e w6 ⟨rfl,hd6⟩;have hd06:=hd05.trans hd6;obtain ⟨hb06,hs6,e0,e1,e2,e3,e4⟩:=id (hbx.to (hd06.below _));cases x6
 case true =>
  go_wp2_with fail
  go_ret
  exact ⟨rfl,hb06⟩
 rcases Q8.out with ⟨h8,h8'⟩ | ⟨h8,h8'⟩
 case inr =>
  clear h8;go_wp2_with fail
  go_ret
  exact ⟨rfl,hb06⟩
 rcases Q9.out with ⟨h9,h9'⟩ | ⟨h9,h9'⟩
 case inr =>
  clear h9;go_wp2_with fail
  go_ret
  exact ⟨rfl,hb06⟩
 have H8:=Lib.hid h8;have H9:=Lib.hid h9;clear h8 h9;go_wp2_with fail
 refine (HP3.out _ (hd06.rd hp)).mono ?_;rintro e w' ⟨rfl,rfl⟩;cases x7
 ·
  have hpm : decide (pm < 0) = true:=HPL.out;go_wp2_with fail
  go_ret
  exact ⟨rfl,hb06⟩
 · have hh:=HN.out;rw [H8.out,H9.out] at hh;cases hh
end Go.Proofs.YtkgoajnnkimkaaaGreat
namespace Go.Proofs.YtkgoajnnkimkaaaGreat
open Go.ChangeShapes Go.WideShapes Go.ChangeAt Go.RowKit
theorem namesB_parts {k : Cd} (h : namesB k = true) : areNamesB k.globals 6 = true ∧ areNamesB k.locks 6 = true ∧ areNamesB k.procs 8 = true ∧ twiceB k.globals = false ∧ twiceB k.locks = false ∧ twiceB k.procs = false ∧ mainS ∈ k.procs:=by
 simp only [namesB,Bool.and_eq_true,Bool.not_eq_true',decide_eq_true_eq] at h;exact ⟨h.1,h.2.1,h.2.2.1,h.2.2.2.1,h.2.2.2.2.1,h.2.2.2.2.2.1,h.2.2.2.2.2.2⟩
theorem l08Heads_yes {B L : Nat} (v : CV) (k : Cd) (w : World) (hk : CodeAt w B v k) (hb : CdB L k) (hL : L ≤ 1099511627776) (hnm : namesB k = true) (h8 : k.entry.length = k.procs.length) (h9 : k.ins.length ≤ 1500) :
  Calls Tryz.prog 156 #[.agg #[.slice v.gA k.globals.length v.gc, .slice v.lA k.locks.length v.lc, .slice v.pA k.procs.length v.pc, .slice v.eA k.entry.length v.ec, .slice v.iA k.ins.length v.ic]] w fun e w'=>e = .returned (.bool (headsB k)) ∧ Below w.heap.size w w':=by
 have hgS : ∀ s ∈ k.globals,s.size ≤ 1099511627776:=fun s hs=>by have:=hb.globalsS s hs;omega
 have hlS : ∀ s ∈ k.locks,s.size ≤ 1099511627776:=fun s hs=>by have:=hb.locksS s hs;omega
 have hpS : ∀ s ∈ k.procs,s.size ≤ 1099511627776:=fun s hs=>by have:=hb.procsS s hs;omega
 have n1:=hb.globals;have n2:=hb.locks;have n3:=hb.procs;have n4:=hb.entry;have n5:=hb.ins;have i1:=hk.gl;have i2:=hk.ll;have i3:=hk.pl;have hk:=hk.full;obtain ⟨y1,y2,y3,y4,y5,y6,y7⟩:=namesB_parts hnm;have HG:=Lib.hid (fun W (h : Rd W w.heap.size v.gA (k.globals.map sv))=>l05Names_any v.gA v.gc k.globals 6 W h (by omega) (by omega) hgS);have HLk:=Lib.hid (fun W (h : Rd W w.heap.size v.lA (k.locks.map sv))=>l05Names_any v.lA v.lc k.locks 6 W h (by omega) (by omega) hlS);have HP:=Lib.hid (fun W (h : Rd W w.heap.size v.pA (k.procs.map sv))=>l05Names_any v.pA v.pc k.procs 8 W h (by omega) (by omega) hpS);have HG2:=Lib.hid (fun W (h : Rd W w.heap.size v.gA (k.globals.map sv))=>l07Twice_any v.gA v.gc k.globals W h (by omega) i1);have HL2:=Lib.hid (fun W (h : Rd W w.heap.size v.lA (k.locks.map sv))=>l07Twice_any v.lA v.lc k.locks W h (by omega) i2);have HP2:=Lib.hid (fun W (h : Rd W w.heap.size v.pA (k.procs.map sv))=>l07Twice_any v.pA v.pc k.procs W h (by omega) i3);have HP3:=Lib.hid (fun W (h : Rd W w.heap.size v.pA (k.procs.map sv))=>placeOf_s v.pA v.pc k.procs mainS W h (by omega));have hpm : decide (placeOf k.procs mainS < 0) = false:=by rw [placeOf,if_pos y7];simp
 rw [y1] at HG;rw [y2] at HLk;rw [y3] at HP;rw [y4] at HG2;rw [y5] at HL2;rw [y6] at HP2;generalize placeOf k.procs mainS = pm at HP3 hpm;have HN:=Lib.hid (show headsB k = ((List.range k.entry.length).all (riseB k) && (List.range k.ins.length).all (endB k)) from by rw [headsB,hnm,decide_eq_true h8,decide_eq_true h9];rfl);have fin : ∀ (y : Bool) w',y = headsB k → Below w.heap.size w w' → Ending.returned (.bool y) = .returned (.bool (headsB k)) ∧ Below w.heap.size w w':=fun y w' h1 h2=>⟨by rw [h1],h2⟩
 have hel : 1 ≤ k.entry.length:=by rw [h8];exact names_proc hnm
 have h8' : (((k.entry.length : Nat) : Int) != (k.procs.length : Int)) = false:=by rw [h8];simp
 have h9' : decide ((1500 : Int) < (k.ins.length : Int)) = false:=by simp;omega
 have H8:=Lib.hid h8;have HCB:=Lib.hid hb;have HEF:=Lib.hid hb.entryF;clear hgS hlS hpS hb hnm y1 y2 y3 y4 y5 y6 y7 h8;have hbx:=codeBox w v k
 go_enter Tryz.func156, Tryz.ntmps156
 go_wp2_with fail
 generalize w.alloc (.cells #[.slice v.gA k.globals.length v.gc, .slice v.lA k.locks.length v.lc, .slice v.pA k.procs.length v.pc, .slice v.eA k.entry.length v.ec, .slice v.iA k.ins.length v.ic] 28) = W at hbx ⊢;obtain ⟨hb0,hs0,b0,b1,b2,b3,b4⟩:=id hbx;have hkw:=hk.below hb0;have hg:=hkw.g;have hl:=hkw.l;have hp:=hkw.p;refine (HG.out _ hg).mono ?_;rintro e w' ⟨rfl,rfl⟩;go_wp2_with fail
 refine (HLk.out _ hl).mono ?_;rintro e w' ⟨rfl,rfl⟩;go_wp2_with fail
 refine (HP.out _ hp).mono ?_;rintro e w' ⟨rfl,rfl⟩;go_wp2_with fail
 refine (HG2.out _ hg).mono ?_;rintro e w4 ⟨rfl,hd4⟩;obtain ⟨hb04,hs4,c0,c1,c2,c3,c4⟩:=id (hbx.to (hd4.below _));go_wp2_with fail
 refine (HL2.out _ (hd4.rd hl)).mono ?_;rintro e w5 ⟨rfl,hd5⟩;have hd05:=hd4.trans hd5;obtain ⟨hb05,hs5,d0,d1,d2,d3,d4⟩:=id (hbx.to (hd05.below _));go_wp2_with fail
 refine (HP2.out _ (hd05.rd hp)).mono ?_;rintro e w6 ⟨rfl,hd6⟩;have hd06:=hd05.trans hd6;obtain ⟨hb06,hs6,e0,e1,e2,e3,e4⟩:=id (hbx.to (hd06.below _));go_wp2_with fail
 refine (HP3.out _ (hd06.rd hp)).mono ?_;rintro e w' ⟨rfl,rfl⟩;have hbx6:=hbx.to (hd06.below _);clear hd06 hd05 hd6 hd5 hd4 hbx b0 b1 b2 b3 b4 c0 c1 c2 c3 c4 d0 d1 d2 d3 d4 hb04 hs4 hb05 hs5 hkw hg hl hp;go_wp2_with fail
 go_loopw [3] (fun i wr=>∃ p : Nat,p ≤ k.entry.length ∧ i = .int .i64 p ∧ (List.range p).all (riseB k) = true ∧ Drew w6 wr) (fun i _=>k.entry.length - (intOf i).toNat)
 case atStart=>exact ⟨0,by omega,rfl,rfl,Drew.refl _⟩
 case round =>
  obtain ⟨p,hp,rfl,hall,hq⟩:=hrel;have HALL:=Lib.hid hall;clear hall;have hbxr:=hbx6.to (hq.below _);obtain ⟨hb0r,hsr,r0,r1,r2,r3,r4⟩:=id hbxr;by_cases hlt : p < k.entry.length
  ·
   have hkr:=hk.below hb0r;obtain ⟨ae,ee,hbe,hce⟩:=hkr.e.int hlt;have hbe' : (ae.add p).block < wr.heap.size:=by rw [block_of_add];omega
   have hfit:=HEF.out _ (List.getElem_mem hlt);unfold Fits at hfit;rw [← entryAt_eq k p hlt] at hce hfit;have g1 : (0 : Int) ≤ (p : Int):=by omega
   have g2 : (p : Int) < (k.entry.length : Int):=by omega
   have HEE:=Lib.hid ee;cases p with
   | zero =>
    have hce0 : wr.cell? ae = some (.int .i64 (entryAt k 0)):=by rw [← hce];rfl
    have g3 : (0 : Int) < (k.entry.length : Int):=by omega
    have HR:=Lib.hid (show riseB k 0 = (decide (entryAt k 0 = 0) && decide (entryAt k 0 < k.ins.length)) from rfl);generalize entryAt k 0 = E at *;rw [ee] at r3 ⊢;clear ee;by_cases hE : E = 0
    ·
     subst hE;by_cases hn0 : k.ins = []
     ·
      have HR2:=Lib.hid (show riseB k 0 = false from by rw [HR.out,hn0];rfl);go_wp2_with fail
      go_quiet (fail)
      go_wp2_with fail
      go_ret
      exact fin _ _ (by rw [HN.out,all_range_false hlt HR2.out];rfl) (below_drewN hb0r _)
     ·
      have HR2:=Lib.hid (show riseB k 0 = true from by
       have : 0 < k.ins.length:=List.length_pos_iff.2 hn0;rw [HR.out,decide_eq_true (show (0 : Int) < k.ins.length from by omega)];rfl)
      go_wp2_with fail
      go_quiet (fail)
      go_wp2_with fail
      go_roundw
      case rel=>exact ⟨1,by omega,rfl,by rw [all_range_succ,HALL.out,HR2.out];rfl,hq.more _⟩
      case measure=>simp [intOf];omega
    ·
     have hE' : (E != 0) = true:=by simpa using hE
     have HR2:=Lib.hid (show riseB k 0 = false from by rw [HR.out,decide_eq_false hE];rfl);go_wp2_with fail
     go_quiet (fail)
     go_wp2_with fail
     go_ret
     exact fin _ _ (by rw [HN.out,all_range_false hlt HR2.out];rfl) (below_drewN hb0r _)
   | succ p =>
    have hlp : p < k.entry.length:=by omega
    obtain ⟨ae',ee',hbe2,hce2⟩:=hkr.e.int hlp;obtain rfl : ae = ae':=by rw [ee] at ee';injection ee'
    rw [← entryAt_eq k p hlp] at hce2;have hce1 : wr.cell? ⟨ae.block,ae.off + (p + 1),none⟩ = some (.int .i64 (entryAt k (p + 1))):=by rw [← hce];rfl
    have hbe3 : (ae.add p).block < wr.heap.size:=by rw [block_of_add];omega
    have HR:=Lib.hid (show riseB k (p + 1) = (decide (entryAt k p < entryAt k (p + 1)) && decide (entryAt k (p + 1) < k.ins.length)) from rfl);generalize entryAt k (p + 1) = F at *;generalize entryAt k p = E at *;have z1 : (((p : Int) + 1) == 0) = false:=by rw [beq_eq_false_iff_ne];omega
    have z2 : decide (0 < ((p : Int) + 1)) = true:=decide_eq_true (by omega);have z3 : IntKind.i64.wrap ((p : Int) + 1 - 1) = (p : Int):=by rw [show ((p : Int) + 1 - 1) = (p : Int) from by omega];exact IntWalk.i64_in _ (by omega)
    have e1 : ((p + 1 : Nat) : Int) = (p : Int) + 1:=by omega
    rw [e1] at g1 g2 ⊢;rw [ee] at r3 ⊢;clear ee e1 ee' hce;by_cases hEF : F ≤ E
    ·
     have t1 : decide (F ≤ E) = true:=by simpa using hEF
     have HR2:=Lib.hid (show riseB k (p + 1) = false from by rw [HR.out,decide_eq_false (by omega)];rfl);go_wp2_with fail
     go_quiet (fail)
     go_wp2_with fail
     go_ret
     exact fin _ _ (by rw [HN.out,all_range_false hlt HR2.out];rfl) (below_drewN hb0r _)
    ·
     have t1 : decide (F ≤ E) = false:=by simpa using hEF
     by_cases hFn : (k.ins.length : Int) ≤ F
     ·
      have t2 : decide ((k.ins.length : Int) ≤ F) = true:=by simpa using hFn
      have HR2:=Lib.hid (show riseB k (p + 1) = false from by rw [HR.out,decide_eq_false (show ¬ F < k.ins.length from by omega)];simp);go_wp2_with fail
      go_quiet (fail)
      go_wp2_with fail
      go_ret
      exact fin _ _ (by rw [HN.out,all_range_false hlt HR2.out];rfl) (below_drewN hb0r _)
     ·
      have t2 : decide ((k.ins.length : Int) ≤ F) = false:=by simpa using hFn
      have HR2:=Lib.hid (show riseB k (p + 1) = true from by rw [HR.out,decide_eq_true (by omega),decide_eq_true (show F < k.ins.length from by omega)];rfl);go_wp2_with fail
      go_quiet (fail)
      go_wp2_with fail
      go_roundw
      case rel=>exact ⟨p + 1 + 1,by omega,by go_num,by rw [all_range_succ,HALL.out,HR2.out];rfl,hq.more _⟩
      case measure=>simp [intOf];omega
  ·
   obtain rfl : p = k.entry.length:=by omega
   have HNN:=Lib.hid (rise_nonneg HALL.out);have h00 : entryAt k 0 = 0:=by
    have:=List.all_eq_true.1 HALL.out 0 (List.mem_range.2 (by omega));simp only [riseB,if_true,Bool.and_eq_true,decide_eq_true_eq] at this;exact this.1
   have H00:=Lib.hid h00;clear h00;have hkr:=hk.below hb0r;obtain ⟨wo,rfl⟩ : ∃ wo : World,wo = wr:=⟨_,rfl⟩
   go_wp2_with fail
   go_loopw [4] (fun i wr=>∃ n : Nat,n ≤ k.ins.length ∧ i = .int .i64 n ∧ (List.range n).all (endB k) = true ∧ Below wo.heap.size wo wr) (fun i _=>k.ins.length - (intOf i).toNat)
   case atStart=>exact ⟨0,by omega,rfl,rfl,Below.refl _ _⟩
   case round =>
    obtain ⟨n,hn,rfl,halle,hbj⟩:=hrel;have HALE:=Lib.hid halle;clear halle;have hbxj:=hbxr.to hbj;obtain ⟨hb0j,hsj,t0,t1,t2,t3,t4⟩:=id hbxj;by_cases hlt2 : n < k.ins.length
    ·
     have hkj:=hk.below hb0j;obtain ⟨ai,A2,c2,ei,hbi,m0,_⟩:=hkj.i.get hlt2;have hbi2 : (ai.add (n * 7)).block < wr.heap.size:=by omega
     obtain ⟨q,hq'⟩:=Int.eq_ofNat_of_zero_le (procTo_nonneg (k:=k) (a:=n) hel (by rw [H00.out];omega));have hq' : procI k n = q:=hq';have hql : q < k.entry.length:=by have:=procTo_lt k n k.entry.length;rw [show procTo k n k.entry.length = (q : Int) from hq'] at this;omega
     have HEB:=Lib.hid (show endB k n = (decide (k.ins[n].op = 9) == decide (endP k q - 1 = n)) from by
      rw [endB,hq',Int.toNat_natCast,opAt,Int.toNat_natCast,List.getElem?_eq_getElem hlt2];rfl)
     have HQ:=Lib.hid hq';have g1 : (0 : Int) ≤ (n : Int):=by omega
     have g2 : (n : Int) < (k.ins.length : Int):=by omega
     have HEI:=Lib.hid ei;have t4':=t4;rw [ei] at t4' ⊢;clear ei hq';have hpr:=fun W (h : CodeAt W w.heap.size v k)=>l08Proc_any v k n W h (by omega) (by omega);have hpe:=fun W (h : CodeAt W w.heap.size v k)=>l08End_any v k q W h HCB.out hL (by omega) (fun hh=>HNN.out _ hh);rw [HQ.out] at hpr;rw [HEI.out] at hpr hpe;generalize k.ins[n].op = op at *;generalize endP k q - 1 = F at *;have HPR:=Lib.hid hpr;have HPE:=Lib.hid hpe;clear hpr hpe;go_wp2_with fail
     go_region_held3 (fun w' => Below wr.heap.size wr w' ∧ CodeAt w' w.heap.size v k ∧ w'.cell? ⟨w.heap.size, 0, none⟩ = some (.slice v.gA k.globals.length v.gc) ∧ w'.cell? ⟨w.heap.size, 1, none⟩ = some (.slice v.lA k.locks.length v.lc) ∧
       w'.cell? ⟨w.heap.size,2,none⟩ = some (.slice v.pA k.procs.length v.pc) ∧ w'.cell? ⟨w.heap.size,3,none⟩ = some (.slice v.eA k.entry.length v.ec) ∧ w'.cell? ⟨w.heap.size,4,none⟩ = some (.slice (some ai) k.ins.length v.ic) ∧
       w'.cell? (ai.add (n * 7)) = some (.int .i64 op))
      (first | exact ⟨(Below.refl _ _).drew,hkj.below ((Below.refl _ _).drew),t0,t1,t2,t3,t4',m0⟩ | (go_split_ands;refine ⟨below_trans' (by assumption) hb1,CodeAt.below (by assumption) (hb1.mono (by have:=Below.size (by assumption : Below wr.heap.size wr _);omega)),?_,?_,?_,?_,?_,?_⟩ <;> exact cell_below hb1 (by assumption)))
      (first | (go_at_call 115;go_split_ands;refine (HPR.out _ (by assumption)).mono ?_;rintro e w1 ⟨rfl,hb1⟩) | (go_at_call 93;go_split_ands;refine (HPE.out _ (by assumption)).mono ?_;rintro e w1 ⟨rfl,hb1⟩))
     rename_i W1 _ hS;have hbS:=hS.1;clear hS;have heb : ∀ b1 b2 : Bool,(op == 9) = b1 → (F == (n : Int)) = b2 → endB k n = (b1 == b2):=by
      intro b1 b2 h1 h2;rw [HEB.out,← h1,← h2];rfl
     have HEBB:=Lib.hid heb;clear heb;cases h1 : (op == 9) <;> cases h2 : (F == (n : Int))
     ·
      have HE:=Lib.hid (HEBB.out _ _ h1 h2);go_wp2_with fail
      go_roundw
      case rel=>exact ⟨n + 1,by omega,by go_num,by rw [all_range_succ,HALE.out,HE.out];rfl,below_trans' hbj hbS⟩
      case measure=>simp [intOf];omega
     ·
      have HE:=Lib.hid (HEBB.out _ _ h1 h2);go_wp2_with fail
      go_ret
      exact fin _ _ (by rw [HN.out,all_range_false hlt2 HE.out];simp) (below_trans' hb0j hbS)
     ·
      have HE:=Lib.hid (HEBB.out _ _ h1 h2);go_wp2_with fail
      go_ret
      exact fin _ _ (by rw [HN.out,all_range_false hlt2 HE.out];simp) (below_trans' hb0j hbS)
     ·
      have HE:=Lib.hid (HEBB.out _ _ h1 h2);go_wp2_with fail
      go_roundw
      case rel=>exact ⟨n + 1,by omega,by go_num,by rw [all_range_succ,HALE.out,HE.out];rfl,below_trans' hbj hbS⟩
      case measure=>simp [intOf];omega
    ·
     go_wp2_with fail
     go_ret
     obtain rfl : n = k.ins.length:=by omega
     exact fin _ _ (by rw [HN.out,HALL.out,HALE.out];rfl) hb0j
theorem l08Heads_any {B L : Nat} (v : CV) (k : Cd) (w : World) (hk : CodeAt w B v k) (hb : CdB L k) (hL : L ≤ 1099511627776) :
  Calls Tryz.prog 156 #[.agg #[.slice v.gA k.globals.length v.gc, .slice v.lA k.locks.length v.lc, .slice v.pA k.procs.length v.pc, .slice v.eA k.entry.length v.ec, .slice v.iA k.ins.length v.ic]] w fun e w'=>e = .returned (.bool (headsB k)) ∧ Below w.heap.size w w':=by
 cases h : (namesB k && (decide (k.entry.length = k.procs.length) && decide (k.ins.length ≤ 1500)))
 ·
  refine (l08Heads_names v k w hk hb hL h).mono fun r w' ⟨hr,hw⟩=>⟨?_,hw⟩
  have : headsB k = false:=by
   rw [headsB,← Bool.and_assoc (decide _),← Bool.and_assoc (namesB k),h];rfl
  rw [hr,this]
 · simp only [Bool.and_eq_true,decide_eq_true_eq] at h;exact l08Heads_yes v k w hk hb hL h.1 h.2.1 h.2.2
end Go.Proofs.YtkgoajnnkimkaaaGreat
