/- Contracts of TermOk and of what it calls, of the program and of the reference. -/
import Derived.Test.YtkgoajnnkimkaaaA3
set_option linter.unusedSimpArgs false
set_option linter.unusedVariables false
set_option maxRecDepth 100000
set_option maxHeartbeats 16000000
namespace Go.Proofs.Ytkgoajnnkimkaaa
open Go.ChangeShapes Go.WideShapes Go.ChangeAt Go.RowKit
def leafOk (t : Tm) : Bool :=
 (decide (t.kind = 1) && (decide (0 ≤ t.num) && decide (t.num ≤ 1000000000) && t.name.toList.isEmpty && decide (t.kids.length = 0))) ||
 (decide (t.kind = 2) && (decide (t.num = 0) && isNameB t.name && decide (t.kids.length = 0)))
def nodeOk (t : Tm) : Bool:=decide (3 ≤ t.kind) && decide (t.kind ≤ 9) && decide (t.kids.length = if t.kind = 8 then 1 else 2) && decide (t.num = 0) && t.name.toList.isEmpty
def termOk : Nat → Tm → Bool
 | 0,t=>leafOk t
 | d + 1,t=>leafOk t || (nodeOk t && t.kids.all (termOk d))
theorem int_beq_zero (n : Nat) : (((n : Nat) : Int) == 0) = decide (n = 0):=by
 rw [Bool.eq_iff_iff,beq_iff_eq,decide_eq_true_eq];omega
theorem leafOk_of_ne {t : Tm} (h1 : t.kind ≠ 1) (h2 : t.kind ≠ 2) : leafOk t = false:=by simp [leafOk,h1,h2]
theorem termFits_leaf {B L : Nat} (d : Nat) (t : Tm) (A : Option Addr) (c : Nat) (w : World) (hk : KidsAt w B A t.kids) (hb : TmB L t) (hL : L ≤ 1099511627776) (hd : d ≤ 6) (h : t.kind = 1 ∨ t.kind = 2) :
  Calls Try.prog 76 #[.agg #[.int .i64 t.kind,.int .i64 t.num,.string t.name,.slice A t.kids.length c],.int .i64 d] w fun e w'=>e = .returned (.bool (termOk d t)) ∧ Below w.heap.size w w':=by
 obtain ⟨f1,f2,f3,f4⟩:=hb.fits;unfold Fits at f1 f2;have HO:=Lib.hid (show termOk d t = leafOk t from by
  cases d with
  | zero=>rfl
  | succ d =>
   have : nodeOk t = false:=by rcases h with h | h <;> simp [nodeOk,h]
   simp [termOk,this])
 rcases h with h | h
 ·
  have HK:=Lib.hid h;rw [h];clear h
  go_enter Try.func76, Try.ntmps76
  go_wp2_with (go_at_call 74;refine (isName_i _ _ (by omega)).mono ?_;rintro e w' ⟨rfl,rfl⟩)
  all_goals go_ret
  all_goals refine ⟨ret_bool ?_,below_alloc0 _ _⟩
  all_goals rw [HO.out]
  all_goals (try rw [int_beq_zero])
  all_goals simp [leafOk,HK.out, *]
  all_goals omega
 ·
  have HK:=Lib.hid h;rw [h];clear h
  go_enter Try.func76, Try.ntmps76
  go_wp2_with (go_at_call 74;refine (isName_i _ _ (by omega)).mono ?_;rintro e w' ⟨rfl,rfl⟩)
  all_goals go_ret
  all_goals refine ⟨ret_bool ?_,below_alloc0 _ _⟩
  all_goals rw [HO.out]
  all_goals (try rw [int_beq_zero])
  all_goals simp [leafOk,HK.out, *]
theorem nodeOk_parts {t : Tm} (h : nodeOk t = true) : 3 ≤ t.kind ∧ t.kind ≤ 9 ∧ t.kids.length = (if t.kind = 8 then 1 else 2) ∧ t.num = 0 ∧ t.name.toList = []:=by
 simp only [nodeOk,Bool.and_eq_true,decide_eq_true_eq,List.isEmpty_iff] at h;exact ⟨h.1.1.1.1,h.1.1.1.2,h.1.1.2,h.1.2,h.2⟩
def TermFitsSaid (f d : Nat) : Prop := ∀ {B L : Nat} (t : Tm) (A : Option Addr) (c : Nat) (w : World), KidsAt w B A t.kids → TmB L t → L ≤ 1099511627776 →
  Calls Try.prog f #[.agg #[.int .i64 t.kind,.int .i64 t.num,.string t.name,.slice A t.kids.length c],.int .i64 d] w fun e w'=>e = .returned (.bool (termOk d t)) ∧ Below w.heap.size w w'
theorem termFits_node (d : Nat) (ih : TermFitsSaid 76 d) {B L : Nat} (t : Tm) (A : Option Addr) (c : Nat) (w : World) (hk : KidsAt w B A t.kids) (hb : TmB L t) (hL : L ≤ 1099511627776) (hd : d + 1 ≤ 6) (h : nodeOk t = true) :
  Calls Try.prog 76 #[.agg #[.int .i64 t.kind,.int .i64 t.num,.string t.name,.slice A t.kids.length c],.int .i64 ((d : Int) + 1)] w fun e w'=>e = .returned (.bool (termOk (d + 1) t)) ∧ Below w.heap.size w w':=by
 obtain ⟨h3,h9,hlen,hnum,hname⟩:=nodeOk_parts h;have hkf:=hk.full;have HO:=Lib.hid (show termOk (d + 1) t = t.kids.all (termOk d) from by
  have : leafOk t = false:=leafOk_of_ne (by omega) (by omega);simp [termOk,h,this])
 have hdz' : (((d : Int) + 1) == 0) = false:=by rw [beq_eq_false_iff_ne];omega
 have hlen2 : t.kids.length ≤ 2:=by rw [hlen];split <;> omega
 have HLEN:=Lib.hid hlen;have HB:=Lib.hid hb;have hkind : t.kind = 3 ∨ t.kind = 4 ∨ t.kind = 5 ∨ t.kind = 6 ∨ t.kind = 7 ∨ t.kind = 8 ∨ t.kind = 9:=by omega
 clear h h3 h9 hlen hb hk;rw [hnum];clear hnum;rcases hkind with h | h | h | h | h | h | h
 all_goals
  have hl:=HLEN.out;rw [h] at hl ⊢;simp only [Int.reduceEq,if_false,if_true] at hl;clear h;first | (have hneq : (((t.kids.length : Nat) : Int) != 2) = false:=by simp [hl]) | (have hneq : (((t.kids.length : Nat) : Int) != 1) = false:=by simp [hl])
  have HL2:=Lib.hid hl;clear hl
  go_enter Try.func76, Try.ntmps76
  go_wp2_with fail
  go_loopw [78] (fun i wr=>∃ k : Nat,k ≤ t.kids.length ∧ i = .int .i64 k ∧ (t.kids.take k).all (termOk d) = true ∧ Below w.heap.size w wr) (fun i _=>t.kids.length - (intOf i).toNat)
  case atStart=>exact ⟨0,by omega,rfl,rfl,below_alloc0 _ _⟩
  case round =>
   obtain ⟨k,hkl,rfl,hall,hbr⟩:=hrel;have HA:=Lib.hid hall;clear hall;by_cases hlt : k < t.kids.length
   ·
    have hkr:=hkf.below hbr;have hsz:=hbr.size;obtain ⟨ad,A',c',rfl,hbk,c0,c1,c2,c3,hkk⟩:=hkr.get hlt;have hbk' : (ad.add (k * 4)).block < wr.heap.size:=by omega
    have HT:=Lib.hid (List.take_succ_eq_append_getElem hlt);have HM:=Lib.hid (List.getElem_mem hlt);have hkk':=hkk.full;cases hok : termOk d t.kids[k]
    ·
     have HK:=Lib.hid hok;clear hok;go_wp2_with fail
     refine (ih t.kids[k] A' c' _ (hkk'.below (below_alloc0 _ _)) (HB.out.kid k hlt) hL).mono ?_;rintro e w1 ⟨rfl,hb1⟩;rw [HK.out];go_wp2_with fail
     go_ret
     have hf : t.kids.all (termOk d) = false:=List.all_eq_false.2 ⟨_,HM.out,by simp [HK.out]⟩;exact ⟨ret_bool (by rw [HO.out,hf]),below_trans' (below_alloc hbr (Nat.le_refl _) _) hb1⟩
    ·
     have HK:=Lib.hid hok;clear hok;go_wp2_with fail
     refine (ih t.kids[k] A' c' _ (hkk'.below (below_alloc0 _ _)) (HB.out.kid k hlt) hL).mono ?_;rintro e w1 ⟨rfl,hb1⟩;rw [HK.out];go_wp2_with fail
     go_roundw
     case rel=>exact ⟨k + 1,by omega,by go_num,by rw [HT.out,List.all_append,HA.out];simp [HK.out],below_trans' (below_alloc hbr (Nat.le_refl _) _) hb1⟩
     case measure=>simp [intOf];omega
   ·
    go_wp2_with fail
    go_ret
    have ha:=HA.out;rw [List.take_of_length_le (by omega)] at ha;exact ⟨ret_bool (by rw [HO.out,ha]),hbr⟩
theorem nodeOk_false {t : Tm} (h : nodeOk t = false) (h3 : 3 ≤ t.kind) (h9 : t.kind ≤ 9) : t.kids.length ≠ (if t.kind = 8 then 1 else 2) ∨ t.num ≠ 0 ∨ ¬ t.name.toList = []:=by
 by_cases h1 : t.kids.length = (if t.kind = 8 then 1 else 2)
 ·
  by_cases h2 : t.num = 0
  ·
   refine .inr (.inr fun hh=>?_);have : nodeOk t = true:=by
    simp only [nodeOk,Bool.and_eq_true,decide_eq_true_eq,List.isEmpty_iff];exact ⟨⟨⟨⟨h3,h9⟩,h1⟩,h2⟩,hh⟩
   rw [this] at h;cases h
  · exact .inr (.inl h2)
 · exact .inl h1
theorem termFits_no (d : Nat) {B L : Nat} (t : Tm) (A : Option Addr) (c : Nat) (w : World) (hk : KidsAt w B A t.kids) (hb : TmB L t) (hL : L ≤ 1099511627776) (hd : d ≤ 6) (h1 : t.kind ≠ 1) (h2 : t.kind ≠ 2) (h : nodeOk t = false ∨ d = 0) :
  Calls Try.prog 76 #[.agg #[.int .i64 t.kind,.int .i64 t.num,.string t.name,.slice A t.kids.length c],.int .i64 d] w fun e w'=>e = .returned (.bool false) ∧ Below w.heap.size w w':=by
 obtain ⟨f1,f2,f3,f4⟩:=hb.fits;by_cases hr : 3 ≤ t.kind ∧ t.kind ≤ 9
 ·
  obtain ⟨h3,h9⟩:=hr;have hkind : t.kind = 3 ∨ t.kind = 4 ∨ t.kind = 5 ∨ t.kind = 6 ∨ t.kind = 7 ∨ t.kind = 8 ∨ t.kind = 9:=by omega
  have hcase : t.kids.length ≠ (if t.kind = 8 then 1 else 2) ∨ t.num ≠ 0 ∨ ¬ t.name.toList = [] ∨ d = 0:=by
   rcases h with h | h
   ·
    rcases nodeOk_false h h3 h9 with h | h | h
    · exact .inl h
    · exact .inr (.inl h)
    · exact .inr (.inr (.inl h))
   · exact .inr (.inr (.inr h))
  clear h h1 h2 h3 h9 hk hb f1 f2;rcases hkind with h | h | h | h | h | h | h
  all_goals
   rw [h] at hcase ⊢;simp only [Int.reduceEq,if_false,if_true] at hcase;clear h;rcases hcase with h | h | h | h
   ·
    first | (have hneq : (((t.kids.length : Nat) : Int) != 2) = true:=by rw [bne_iff_ne];omega) | (have hneq : (((t.kids.length : Nat) : Int) != 1) = true:=by rw [bne_iff_ne];omega)
    go_enter Try.func76, Try.ntmps76
    go_wp2_with fail
    all_goals go_ret
    all_goals exact ⟨rfl,below_alloc0 _ _⟩
   ·
    have hn : (t.num != 0) = true:=by rw [bne_iff_ne];exact h
    clear h
    go_enter Try.func76, Try.ntmps76
    go_wp2_with fail
    all_goals go_ret
    all_goals exact ⟨rfl,below_alloc0 _ _⟩
   ·
    go_enter Try.func76, Try.ntmps76
    go_wp2_with fail
    all_goals go_ret
    all_goals exact ⟨rfl,below_alloc0 _ _⟩
   ·
    subst h
    go_enter Try.func76, Try.ntmps76
    go_wp2_with fail
    all_goals go_ret
    all_goals exact ⟨rfl,below_alloc0 _ _⟩
 ·
  have e1 : (t.kind == 1) = false:=by rw [beq_eq_false_iff_ne];omega
  have e2 : (t.kind == 2) = false:=by rw [beq_eq_false_iff_ne];omega
  have e3 : (t.kind == 3) = false:=by rw [beq_eq_false_iff_ne];omega
  have e4 : (t.kind == 4) = false:=by rw [beq_eq_false_iff_ne];omega
  have e5 : (t.kind == 5) = false:=by rw [beq_eq_false_iff_ne];omega
  have e6 : (t.kind == 6) = false:=by rw [beq_eq_false_iff_ne];omega
  have e7 : (t.kind == 7) = false:=by rw [beq_eq_false_iff_ne];omega
  have e8 : (t.kind == 8) = false:=by rw [beq_eq_false_iff_ne];omega
  have e9 : (t.kind == 9) = false:=by rw [beq_eq_false_iff_ne];omega
  clear hr h h1 h2
  go_enter Try.func76, Try.ntmps76
  go_wp2_with fail
  all_goals go_ret
  all_goals exact ⟨rfl,below_alloc0 _ _⟩
theorem termFits_any (d : Nat) (hd : d ≤ 6) : TermFitsSaid 76 d:=by
 induction d with
 | zero =>
  intro B L t A c w hk hb hL;by_cases h : t.kind = 1 ∨ t.kind = 2
  · exact termFits_leaf 0 t A c w hk hb hL hd h
  ·
   have h1 : t.kind ≠ 1:=fun e=>h (.inl e);have h2 : t.kind ≠ 2:=fun e=>h (.inr e);refine (termFits_no 0 t A c w hk hb hL hd h1 h2 (.inr rfl)).mono fun e w' ⟨he,hw⟩=>⟨?_,hw⟩
   rw [he,termOk,leafOk_of_ne h1 h2]
 | succ d ih =>
  intro B L t A c w hk hb hL;by_cases h : t.kind = 1 ∨ t.kind = 2
  · exact termFits_leaf (d + 1) t A c w hk hb hL hd h
  ·
   have h1 : t.kind ≠ 1:=fun e=>h (.inl e);have h2 : t.kind ≠ 2:=fun e=>h (.inr e);cases hn : nodeOk t
   ·
    refine (termFits_no (d + 1) t A c w hk hb hL hd h1 h2 (.inl hn)).mono fun e w' ⟨he,hw⟩=>⟨?_,hw⟩
    rw [he,termOk,leafOk_of_ne h1 h2,hn];rfl
   · exact termFits_node d (ih (by omega)) t A c w hk hb hL hd hn
theorem termOk_i {B L : Nat} (t : Tm) (A : Option Addr) (c : Nat) (w : World) (hk : KidsAt w B A t.kids) (hb : TmB L t) (hL : L ≤ 1099511627776) :
  Calls Try.prog 56 #[.agg #[.int .i64 t.kind,.int .i64 t.num,.string t.name,.slice A t.kids.length c]] w fun e w'=>e = .returned (.bool (termOk 6 t)) ∧ Below w.heap.size w w':=by
 go_enter Try.func56, Try.ntmps56
 go_wp2_with fail
 refine (termFits_any 6 (by omega) t A c _ (hk.full.below (below_alloc0 _ _)) hb hL).mono ?_;rintro e w1 ⟨rfl,hb1⟩;go_wp2_with fail
 go_ret
 exact ⟨rfl,below_trans' (below_alloc0 _ _) hb1⟩
end Go.Proofs.Ytkgoajnnkimkaaa
namespace Go.Proofs.Ytkgoajnnkimkaaa
open Go.ChangeShapes Go.WideShapes Go.ChangeAt Go.RowKit
theorem isSet_any (a : Int) (w : World) :
  Calls Try.prog 37 #[.int .i64 a] w fun e w'=>e = .returned (.bool (isSetB a)) ∧ w = w':=by
 go_enter Try.func37, Try.ntmps37
 go_wp2
 all_goals go_ret
 all_goals refine ⟨?_,rfl⟩
 all_goals simp [isSetB, *]
 omega
theorem l01In_any (x a b : Int) (w : World) :
  Calls Try.prog 43 #[.int .i64 x,.int .i64 a,.int .i64 b] w fun e w'=>e = .returned (.bool (decide (a ≤ x) && decide (x ≤ b))) ∧ w = w':=by
 go_enter Try.func43, Try.ntmps43
 go_wp2
 all_goals go_ret
 all_goals refine ⟨?_,rfl⟩
 all_goals simp [*]
 omega
theorem hasBit_any (s i : Nat) (w : World) (hs : s < 9223372036854775808) (hi : i < 64) :
  Calls Try.prog 38 #[.int .i64 s,.int .i64 i] w fun e w'=>e = .returned (.bool (s.testBit i)) ∧ w = w':=by
 go_enter Try.func38, Try.ntmps38
 go_wp2
 go_ret
 exact ⟨congrArg (fun b=>Ending.returned (Value.bool b)) (shr_bit s i hs),rfl⟩
def inSetB (s i : Int) : Bool:=isSetB s && decide (0 ≤ i) && decide (i < 6) && s.toNat.testBit i.toNat
def withinB (a b : Int) : Bool:=isSetB a && isSetB b && (a.toNat &&& b.toNat == a.toNat)
def bothV (a b : Int) : Int:=if isSetB a && isSetB b then ((a.toNat &&& b.toNat : Nat) : Int) else 0
def eitherV (a b : Int) : Int:=if isSetB a && isSetB b then ((a.toNat ||| b.toNat : Nat) : Int) else 0
def withoutV (a b : Int) : Int:=if isSetB a && isSetB b then ((andNot a.toNat b.toNat : Nat) : Int) else 0
theorem within_i (a b : Int) (w : World) :
  Calls Try.prog 22 #[.int .i64 a,.int .i64 b] w fun e w'=>e = .returned (.bool (withinB a b)) ∧ w = w':=by
 cases ha : isSetB a <;> cases hb : isSetB b
 case true.true =>
  obtain ⟨n,rfl,hn⟩:=isSetB_nat ha;obtain ⟨m,rfl,hm⟩:=isSetB_nat hb
  go_enter Try.func22, Try.ntmps22
  go_wp2_with (go_at_call 37;refine (isSet_any _ _).mono ?_;rintro e w' ⟨rfl,rfl⟩)
  go_ret
  refine ⟨?_,rfl⟩;exact ret_bool (by rw [withinB,ha,hb,i64_andNot_nat _ _ (by omega) (by omega),cast_beq_zero,within_eq _ _ (by omega) (by omega)];rfl)
 all_goals go_enter Try.func22, Try.ntmps22
 all_goals go_wp2_with (go_at_call 37;refine (isSet_any _ _).mono ?_;rintro e w' ⟨rfl,rfl⟩)
 all_goals go_ret
 all_goals refine ⟨?_,rfl⟩
 all_goals simp [withinB,bothV,eitherV,withoutV,ha,hb]
theorem both_i (a b : Int) (w : World) :
  Calls Try.prog 17 #[.int .i64 a,.int .i64 b] w fun e w'=>e = .returned (.int .i64 (bothV a b)) ∧ w = w':=by
 cases ha : isSetB a <;> cases hb : isSetB b
 case true.true =>
  obtain ⟨n,rfl,hn⟩:=isSetB_nat ha;obtain ⟨m,rfl,hm⟩:=isSetB_nat hb
  go_enter Try.func17, Try.ntmps17
  go_wp2_with (go_at_call 37;refine (isSet_any _ _).mono ?_;rintro e w' ⟨rfl,rfl⟩)
  go_ret
  refine ⟨?_,rfl⟩;rw [bothV,ha,hb,if_pos (by rfl),i64_and_nat _ _ (by omega) (by omega)];simp
 all_goals go_enter Try.func17, Try.ntmps17
 all_goals go_wp2_with (go_at_call 37;refine (isSet_any _ _).mono ?_;rintro e w' ⟨rfl,rfl⟩)
 all_goals go_ret
 all_goals refine ⟨?_,rfl⟩
 all_goals simp [withinB,bothV,eitherV,withoutV,ha,hb]
theorem either_i (a b : Int) (w : World) :
  Calls Try.prog 18 #[.int .i64 a,.int .i64 b] w fun e w'=>e = .returned (.int .i64 (eitherV a b)) ∧ w = w':=by
 cases ha : isSetB a <;> cases hb : isSetB b
 case true.true =>
  obtain ⟨n,rfl,hn⟩:=isSetB_nat ha;obtain ⟨m,rfl,hm⟩:=isSetB_nat hb
  go_enter Try.func18, Try.ntmps18
  go_wp2_with (go_at_call 37;refine (isSet_any _ _).mono ?_;rintro e w' ⟨rfl,rfl⟩)
  go_ret
  refine ⟨?_,rfl⟩;rw [eitherV,ha,hb,if_pos (by rfl),i64_or_nat _ _ (by omega) (by omega)];simp
 all_goals go_enter Try.func18, Try.ntmps18
 all_goals go_wp2_with (go_at_call 37;refine (isSet_any _ _).mono ?_;rintro e w' ⟨rfl,rfl⟩)
 all_goals go_ret
 all_goals refine ⟨?_,rfl⟩
 all_goals simp [withinB,bothV,eitherV,withoutV,ha,hb]
theorem without_i (a b : Int) (w : World) :
  Calls Try.prog 19 #[.int .i64 a,.int .i64 b] w fun e w'=>e = .returned (.int .i64 (withoutV a b)) ∧ w = w':=by
 cases ha : isSetB a <;> cases hb : isSetB b
 case true.true =>
  obtain ⟨n,rfl,hn⟩:=isSetB_nat ha;obtain ⟨m,rfl,hm⟩:=isSetB_nat hb
  go_enter Try.func19, Try.ntmps19
  go_wp2_with (go_at_call 37;refine (isSet_any _ _).mono ?_;rintro e w' ⟨rfl,rfl⟩)
  go_ret
  refine ⟨?_,rfl⟩;rw [withoutV,ha,hb,if_pos (by rfl),i64_andNot_nat _ _ (by omega) (by omega)];simp
 all_goals go_enter Try.func19, Try.ntmps19
 all_goals go_wp2_with (go_at_call 37;refine (isSet_any _ _).mono ?_;rintro e w' ⟨rfl,rfl⟩)
 all_goals go_ret
 all_goals refine ⟨?_,rfl⟩
 all_goals simp [withinB,bothV,eitherV,withoutV,ha,hb]
theorem inSet_i (s i : Int) (w : World) :
  Calls Try.prog 16 #[.int .i64 s,.int .i64 i] w fun e w'=>e = .returned (.bool (inSetB s i)) ∧ w = w':=by
 cases hs : isSetB s
 ·
  go_enter Try.func16, Try.ntmps16
  go_wp2_with (go_at_call 37;refine (isSet_any _ _).mono ?_;rintro e w' ⟨rfl,rfl⟩)
  go_ret
  exact ⟨by simp [inSetB,hs],rfl⟩
 ·
  obtain ⟨n,rfl,hn⟩:=isSetB_nat hs;by_cases h0 : 0 ≤ i
  ·
   by_cases h6 : i < 6
   ·
    obtain ⟨j,rfl⟩:=Int.eq_ofNat_of_zero_le h0;have hj : j < 6:=by omega
    go_enter Try.func16, Try.ntmps16
    go_wp2_with (first | (go_at_call 37;refine (isSet_any _ _).mono ?_;rintro e w' ⟨rfl,rfl⟩) | (go_at_call 38;refine (hasBit_any _ _ _ (by omega) (by omega)).mono ?_;rintro e w' ⟨rfl,rfl⟩))
    go_ret
    exact ⟨ret_bool (by rw [inSetB,hs,decide_eq_true (by omega : (0 : Int) ≤ j),decide_eq_true (by omega : (j : Int) < 6)];rfl),rfl⟩
   ·
    go_enter Try.func16, Try.ntmps16
    go_wp2_with (go_at_call 37;refine (isSet_any _ _).mono ?_;rintro e w' ⟨rfl,rfl⟩)
    go_ret
    exact ⟨ret_bool (by rw [inSetB,decide_eq_false (by omega : ¬ i < 6)];simp),rfl⟩
  ·
   go_enter Try.func16, Try.ntmps16
   go_wp2_with (go_at_call 37;refine (isSet_any _ _).mono ?_;rintro e w' ⟨rfl,rfl⟩)
   go_ret
   exact ⟨ret_bool (by rw [inSetB,decide_eq_false (by omega : ¬ 0 ≤ i)];simp),rfl⟩
end Go.Proofs.Ytkgoajnnkimkaaa
namespace Go.Proofs.Ytkgoajnnkimkaaa
open Go.ChangeShapes Go.WideShapes Go.ChangeAt Go.RowKit
theorem l03Right_leaf {B L : Nat} (d : Nat) (t : Tm) (A : Option Addr) (c : Nat) (w : World) (hk : KidsAt w B A t.kids) (hb : TmB L t) (hL : L ≤ 1099511627776) (hd : d ≤ 6) (h : t.kind = 1 ∨ t.kind = 2) :
  Calls Try.prog 119 #[.agg #[.int .i64 t.kind,.int .i64 t.num,.string t.name,.slice A t.kids.length c],.int .i64 d] w fun e w'=>e = .returned (.bool (termOk d t)) ∧ Below w.heap.size w w':=by
 obtain ⟨f1,f2,f3,f4⟩:=hb.fits;unfold Fits at f1 f2;have HO:=Lib.hid (show termOk d t = leafOk t from by
  cases d with
  | zero=>rfl
  | succ d =>
   have : nodeOk t = false:=by rcases h with h | h <;> simp [nodeOk,h]
   simp [termOk,this])
 rcases h with h | h
 ·
  have HK:=Lib.hid h;rw [h];clear h;cases hn : (decide (0 ≤ t.num) && decide (t.num ≤ 1000000000))
  all_goals
   go_enter Try.func119, Try.ntmps119
   go_wp2_with (go_at_call 43;refine (l01In_any _ _ _ _).mono ?_;rintro e w' ⟨rfl,rfl⟩)
   all_goals go_ret
   all_goals refine ⟨ret_bool ?_,below_alloc0 _ _⟩
   all_goals rw [HO.out]
   all_goals (try rw [int_beq_zero])
   all_goals simp [leafOk,HK.out, *]
 ·
  have HK:=Lib.hid h;rw [h];clear h
  go_enter Try.func119, Try.ntmps119
  go_wp2_with (go_at_call 95;refine (isName_s _ _ (by omega)).mono ?_;rintro e w' ⟨rfl,rfl⟩)
  all_goals go_ret
  all_goals refine ⟨ret_bool ?_,below_alloc0 _ _⟩
  all_goals rw [HO.out]
  all_goals (try rw [int_beq_zero])
  all_goals simp [leafOk,HK.out, *]
theorem l03Right_node (d : Nat) (ih : TermFitsSaid 119 d) {B L : Nat} (t : Tm) (A : Option Addr) (c : Nat) (w : World) (hk : KidsAt w B A t.kids) (hb : TmB L t) (hL : L ≤ 1099511627776) (hd : d + 1 ≤ 6) (h : nodeOk t = true) :
  Calls Try.prog 119 #[.agg #[.int .i64 t.kind,.int .i64 t.num,.string t.name,.slice A t.kids.length c],.int .i64 ((d : Int) + 1)] w fun e w'=>e = .returned (.bool (termOk (d + 1) t)) ∧ Below w.heap.size w w':=by
 obtain ⟨h3,h9,hlen,hnum,hname⟩:=nodeOk_parts h;have hkf:=hk.full;have HO:=Lib.hid (show termOk (d + 1) t = t.kids.all (termOk d) from by
  have : leafOk t = false:=leafOk_of_ne (by omega) (by omega);simp [termOk,h,this])
 have hdz' : (((d : Int) + 1) == 0) = false:=by rw [beq_eq_false_iff_ne];omega
 have hlen2 : t.kids.length ≤ 2:=by rw [hlen];split <;> omega
 have HLEN:=Lib.hid hlen;have HB:=Lib.hid hb;have e1 : (t.kind == 1) = false:=by rw [beq_eq_false_iff_ne];omega
 have e2 : (t.kind == 2) = false:=by rw [beq_eq_false_iff_ne];omega
 have e3 : (decide (3 ≤ t.kind) && decide (t.kind ≤ 9)) = true:=by simp;omega
 have HE3:=Lib.hid e3;clear h h3 h9 hlen hb hk e3;rw [hnum];clear hnum;have hcase : ∃ m : Nat,t.kids.length = m ∧ (((t.kids.length : Nat) : Int) != m) = false ∧ ((t.kind == 8) = true ∧ m = 1 ∨ (t.kind == 8) = false ∧ m = 2):=by
  have hl:=HLEN.out;by_cases h8 : t.kind = 8
  · rw [if_pos h8] at hl;exact ⟨1,hl,by simp [hl],.inl ⟨by simp [h8],rfl⟩⟩
  · rw [if_neg h8] at hl;exact ⟨2,hl,by simp [hl],.inr ⟨by simp [h8],rfl⟩⟩
 obtain ⟨m,hm,_,hcase⟩:=hcase;have HM0:=Lib.hid hm;clear hm;rcases hcase with ⟨h8,rfl⟩ | ⟨h8,rfl⟩
 all_goals
  first | (have hneq : (((t.kids.length : Nat) : Int) != 1) = false:=by rw [HM0.out];rfl) | (have hneq : (((t.kids.length : Nat) : Int) != 2) = false:=by rw [HM0.out];rfl)
  go_enter Try.func119, Try.ntmps119
  go_wp2_with (go_at_call 43;refine (l01In_any _ _ _ _).mono ?_;rintro e w' ⟨rfl,rfl⟩;rw [HE3.out])
  have b3:=box_cell w #[.int .i64 t.kind,.int .i64 0,.string t.name,.slice A t.kids.length c] 75 3 rfl;have hb0:=below_alloc0 w (.cells #[.int .i64 t.kind,.int .i64 0,.string t.name,.slice A t.kids.length c] 75);have hs0:=alloc_size w (.cells #[.int .i64 t.kind,.int .i64 0,.string t.name,.slice A t.kids.length c] 75);generalize w.alloc (.cells #[.int .i64 t.kind,.int .i64 0,.string t.name,.slice A t.kids.length c] 75) = W at b3 hb0 hs0 ⊢;go_loopw [6] (fun i wr=>∃ k : Nat,k ≤ t.kids.length ∧ i = .int .i64 k ∧ (t.kids.take k).all (termOk d) = true ∧ Below W.heap.size W wr) (fun i _=>t.kids.length - (intOf i).toNat)
  case atStart=>exact ⟨0,by omega,rfl,rfl,Below.refl _ _⟩
  case round =>
   obtain ⟨k,hkl,rfl,hall,hbr⟩:=hrel;have HA:=Lib.hid hall;clear hall;have c3w:=cell_below hbr b3;have hsz:=hbr.size;have hlw : w.heap.size < wr.heap.size:=by omega
   by_cases hlt : k < t.kids.length
   ·
    have hkr:=(hkf.below hb0).full.below hbr;obtain ⟨ad,A',c',rfl,hbk,c0,c1,c2,c3,hkk⟩:=hkr.get hlt;have hbk' : (ad.add (k * 4)).block < wr.heap.size:=by omega
    have HT:=Lib.hid (List.take_succ_eq_append_getElem hlt);have HM:=Lib.hid (List.getElem_mem hlt);have hkk':=hkk.full;cases hok : termOk d t.kids[k]
    ·
     have HK:=Lib.hid hok;clear hok;go_wp2_with fail
     refine (ih t.kids[k] A' c' _ hkk' (HB.out.kid k hlt) hL).mono ?_;rintro e w1 ⟨rfl,hb1⟩;rw [HK.out];go_wp2_with fail
     go_ret
     have hf : t.kids.all (termOk d) = false:=List.all_eq_false.2 ⟨_,HM.out,by simp [HK.out]⟩;exact ⟨ret_bool (by rw [HO.out,hf]),below_trans' (below_trans' hb0 hbr) hb1⟩
    ·
     have HK:=Lib.hid hok;clear hok;go_wp2_with fail
     refine (ih t.kids[k] A' c' _ hkk' (HB.out.kid k hlt) hL).mono ?_;rintro e w1 ⟨rfl,hb1⟩;rw [HK.out];go_wp2_with fail
     go_roundw
     case rel=>exact ⟨k + 1,by omega,by go_num,by rw [HT.out,List.all_append,HA.out];simp [HK.out],below_trans' hbr hb1⟩
     case measure=>simp [intOf];omega
   ·
    go_wp2_with fail
    go_ret
    have ha:=HA.out;rw [List.take_of_length_le (by omega)] at ha;exact ⟨ret_bool (by rw [HO.out,ha]),below_trans' hb0 hbr⟩
theorem l03Right_no (d : Nat) {B L : Nat} (t : Tm) (A : Option Addr) (c : Nat) (w : World) (hk : KidsAt w B A t.kids) (hb : TmB L t) (hL : L ≤ 1099511627776) (hd : d ≤ 6) (h1 : t.kind ≠ 1) (h2 : t.kind ≠ 2) (h : nodeOk t = false ∨ d = 0) :
  Calls Try.prog 119 #[.agg #[.int .i64 t.kind,.int .i64 t.num,.string t.name,.slice A t.kids.length c],.int .i64 d] w fun e w'=>e = .returned (.bool false) ∧ Below w.heap.size w w':=by
 obtain ⟨f1,f2,f3,f4⟩:=hb.fits;have e1 : (t.kind == 1) = false:=by rw [beq_eq_false_iff_ne];exact h1
 have e2 : (t.kind == 2) = false:=by rw [beq_eq_false_iff_ne];exact h2
 by_cases hr : 3 ≤ t.kind ∧ t.kind ≤ 9
 ·
  obtain ⟨h3,h9⟩:=hr;have hcase : t.kids.length ≠ (if t.kind = 8 then 1 else 2) ∨ t.num ≠ 0 ∨ ¬ t.name.toList = [] ∨ d = 0:=by
   rcases h with h | h
   ·
    rcases nodeOk_false h h3 h9 with h | h | h
    · exact .inl h
    · exact .inr (.inl h)
    · exact .inr (.inr (.inl h))
   · exact .inr (.inr (.inr h))
  have HE3:=Lib.hid (show (decide (3 ≤ t.kind) && decide (t.kind ≤ 9)) = true from by simp;omega);clear h h1 h2 h3 h9 hk hb f1 f2;by_cases h8 : t.kind = 8
  all_goals
   first | rw [if_pos h8] at hcase | rw [if_neg h8] at hcase
   first | (have e8 : (t.kind == 8) = true:=by simp [h8];done) | (have e8 : (t.kind == 8) = false:=by simp [h8];done)
   clear h8;rcases hcase with h | h | h | h
   ·
    first | (have hneq : (((t.kids.length : Nat) : Int) != 2) = true:=by rw [bne_iff_ne];omega) | (have hneq : (((t.kids.length : Nat) : Int) != 1) = true:=by rw [bne_iff_ne];omega)
    go_enter Try.func119, Try.ntmps119
    go_wp2_with (go_at_call 43;refine (l01In_any _ _ _ _).mono ?_;rintro e w' ⟨rfl,rfl⟩;rw [HE3.out])
    all_goals go_ret
    all_goals exact ⟨rfl,below_alloc0 _ _⟩
   ·
    have hn : (t.num != 0) = true:=by rw [bne_iff_ne];exact h
    clear h
    go_enter Try.func119, Try.ntmps119
    go_wp2_with (go_at_call 43;refine (l01In_any _ _ _ _).mono ?_;rintro e w' ⟨rfl,rfl⟩;rw [HE3.out])
    all_goals go_ret
    all_goals exact ⟨rfl,below_alloc0 _ _⟩
   ·
    go_enter Try.func119, Try.ntmps119
    go_wp2_with (go_at_call 43;refine (l01In_any _ _ _ _).mono ?_;rintro e w' ⟨rfl,rfl⟩;rw [HE3.out])
    all_goals go_ret
    all_goals exact ⟨rfl,below_alloc0 _ _⟩
   ·
    subst h
    go_enter Try.func119, Try.ntmps119
    go_wp2_with (go_at_call 43;refine (l01In_any _ _ _ _).mono ?_;rintro e w' ⟨rfl,rfl⟩;rw [HE3.out])
    all_goals go_ret
    all_goals exact ⟨rfl,below_alloc0 _ _⟩
 ·
  have HE3:=Lib.hid (show (decide (3 ≤ t.kind) && decide (t.kind ≤ 9)) = false from by simp;omega);have e8 : (t.kind == 8) = false:=by rw [beq_eq_false_iff_ne];omega
  clear hr h h1 h2
  go_enter Try.func119, Try.ntmps119
  go_wp2_with (go_at_call 43;refine (l01In_any _ _ _ _).mono ?_;rintro e w' ⟨rfl,rfl⟩;rw [HE3.out])
  all_goals go_ret
  all_goals exact ⟨rfl,below_alloc0 _ _⟩
theorem l03Right_any (d : Nat) (hd : d ≤ 6) : TermFitsSaid 119 d:=by
 induction d with
 | zero =>
  intro B L t A c w hk hb hL;by_cases h : t.kind = 1 ∨ t.kind = 2
  · exact l03Right_leaf 0 t A c w hk hb hL hd h
  ·
   have h1 : t.kind ≠ 1:=fun e=>h (.inl e);have h2 : t.kind ≠ 2:=fun e=>h (.inr e);refine (l03Right_no 0 t A c w hk hb hL hd h1 h2 (.inr rfl)).mono fun e w' ⟨he,hw⟩=>⟨?_,hw⟩
   rw [he,termOk,leafOk_of_ne h1 h2]
 | succ d ih =>
  intro B L t A c w hk hb hL;by_cases h : t.kind = 1 ∨ t.kind = 2
  · exact l03Right_leaf (d + 1) t A c w hk hb hL hd h
  ·
   have h1 : t.kind ≠ 1:=fun e=>h (.inl e);have h2 : t.kind ≠ 2:=fun e=>h (.inr e);cases hn : nodeOk t
   ·
    refine (l03Right_no (d + 1) t A c w hk hb hL hd h1 h2 (.inl hn)).mono fun e w' ⟨he,hw⟩=>⟨?_,hw⟩
    rw [he,termOk,leafOk_of_ne h1 h2,hn];rfl
   · exact l03Right_node d (ih (by omega)) t A c w hk hb hL hd hn
theorem termOk_s {B L : Nat} (t : Tm) (A : Option Addr) (c : Nat) (w : World) (hk : KidsAt w B A t.kids) (hb : TmB L t) (hL : L ≤ 1099511627776) :
  Calls Try.prog 115 #[.agg #[.int .i64 t.kind,.int .i64 t.num,.string t.name,.slice A t.kids.length c]] w fun e w'=>e = .returned (.bool (termOk 6 t)) ∧ Below w.heap.size w w':=by
 go_enter Try.func115, Try.ntmps115
 go_wp2_with fail
 refine (l03Right_any 6 (by omega) t A c _ (hk.full.below (below_alloc0 _ _)) hb hL).mono ?_;rintro e w1 ⟨rfl,hb1⟩;go_wp2_with fail
 go_ret
 exact ⟨rfl,below_trans' (below_alloc0 _ _) hb1⟩
end Go.Proofs.Ytkgoajnnkimkaaa
