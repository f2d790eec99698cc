/- Contracts of IsName and what it calls, of the program and of the reference, at every text. -/
import Derived.Test.YtkgoajnnkimkaaaA2
import Derived.Laws.StructEq
import Derived.WalkLawsBesides
import Derived.WalkSpells
set_option linter.unusedSimpArgs false
set_option linter.unusedVariables false
set_option maxRecDepth 100000
set_option maxHeartbeats 16000000
namespace Go.Proofs.Ytkgoajnnkimkaaa
open Go.ChangeShapes Go.WideShapes Go.ChangeAt Go.RowKit
def letterB (n : Int) : Bool:=decide (97 ≤ n) && decide (n ≤ 122)
def figureB (n : Int) : Bool:=decide (48 ≤ n) && decide (n ≤ 57)
theorem isSmall_any (n : Int) (w : World) : Calls Try.prog 91 #[.int .u8 n] w fun e w'=>e = .returned (.bool (letterB n)) ∧ w = w':=by
 go_enter Try.func91, Try.ntmps91
 go_wp2
 all_goals go_ret
 all_goals refine ⟨?_,rfl⟩
 all_goals simp [letterB, *]
 omega
theorem isFigure_any (n : Int) (w : World) : Calls Try.prog 92 #[.int .u8 n] w fun e w'=>e = .returned (.bool (figureB n)) ∧ w = w':=by
 go_enter Try.func92, Try.ntmps92
 go_wp2
 all_goals go_ret
 all_goals refine ⟨?_,rfl⟩
 all_goals simp [figureB, *]
 omega
theorem l02Letter_any (n : Int) (w : World) : Calls Try.prog 100 #[.int .u8 n] w fun e w'=>e = .returned (.bool (letterB n)) ∧ w = w':=by
 go_enter Try.func100, Try.ntmps100
 go_wp2
 all_goals go_ret
 all_goals refine ⟨?_,rfl⟩
 all_goals simp [letterB, *]
 omega
theorem l02Figure_any (n : Int) (w : World) : Calls Try.prog 103 #[.int .u8 n] w fun e w'=>e = .returned (.bool (figureB n)) ∧ w = w':=by
 go_enter Try.func103, Try.ntmps103
 go_wp2
 all_goals go_ret
 all_goals refine ⟨?_,rfl⟩
 all_goals simp [figureB, *]
 omega
def nameByte (b : UInt8) : Bool:=letterB b.toNat || figureB b.toNat
def wordB (s : ByteArray) : Bool:=if h : 0 < s.size then decide (s.size ≤ 12) && letterB (s[0]'h).toNat && s.data.toList.all nameByte else false
def kwL : List (List UInt8):=[[97,110,100],[99,97,108,108],[101,108,115,101],[103,108,111,98,97,108,115],[105,102],[108,111,99,107],[108,111,99,107,115],[110,111,116],[112,114,111,99],[115,107,105,112],[115,112,97,119,110],[117,110,108,111,99,107],[119,104,105,108,101]]
def isNameB (s : ByteArray) : Bool:=wordB s && !kwL.any fun l=>s.toList == l
theorem take_snoc (s : ByteArray) (k : Nat) (h : k < s.size) : s.data.toList.take (k + 1) = s.data.toList.take k ++ [s[k]]:=by
 rw [List.take_succ_eq_append_getElem (by simpa using h)];rfl
theorem all_false (s : ByteArray) (k : Nat) (h : k < s.size) (hf : nameByte s[k] = false) : s.data.toList.all nameByte = false:=by
 rw [List.all_eq_false];exact ⟨s[k],by rw [Array.mem_toList_iff];exact Array.getElem_mem _,by simp [hf]⟩
theorem l02Word_any (s : ByteArray) (w : World) (hs : s.size ≤ 1099511627776) : Calls Try.prog 102 #[.string s] w fun e w'=>e = .returned (.bool (wordB s)) ∧ w = w':=by
 by_cases h1 : 0 < s.size
 ·
  have e1 : ((s.size : Int) == 0) = false:=by rw [beq_eq_false_iff_ne];omega
  by_cases h2 : s.size ≤ 12
  ·
   have e2 : decide (12 < (s.size : Int)) = false:=by simp;omega
   cases h3 : letterB (s[0]'h1).toNat
   ·
    go_enter Try.func102, Try.ntmps102
    go_wp2_with (go_at_call 100;refine (l02Letter_any _ _).mono ?_;rintro e w' ⟨rfl,rfl⟩)
    go_ret
    exact ⟨ret_bool (by simp [wordB,h1,h3]),rfl⟩
   ·
    go_enter Try.func102, Try.ntmps102
    go_wp2_with (go_at_call 100;refine (l02Letter_any _ _).mono ?_;rintro e w' ⟨rfl,rfl⟩)
    go_loop [3] (fun i=>∃ k : Nat,k ≤ s.size ∧ i = .int .i64 k ∧ (s.data.toList.take k).all nameByte = true) (fun i=>s.size - (intOf i).toNat)
    case atStart=>exact ⟨0,by omega,rfl,rfl⟩
    case round =>
     obtain ⟨k,hk,rfl,hall⟩:=hrel;have HA:=Lib.hid hall;clear hall;by_cases hlt : k < s.size
     ·
      have HT:=Lib.hid (take_snoc s k hlt);cases hb1 : letterB (s[k]'hlt).toNat
      ·
       cases hb2 : figureB (s[k]'hlt).toNat
       ·
        have HB1:=Lib.hid hb1;have HB2:=Lib.hid hb2;go_wp2_with (first | (go_at_call 100;refine (l02Letter_any _ _).mono ?_;rintro e w' ⟨rfl,rfl⟩) | (go_at_call 103;refine (l02Figure_any _ _).mono ?_;rintro e w' ⟨rfl,rfl⟩))
        go_ret
        exact ⟨ret_bool (by rw [wordB,dif_pos h1,all_false s k hlt (by simp [nameByte,HB1.out,HB2.out])];simp),rfl⟩
       ·
        have HB2:=Lib.hid hb2;go_wp2_with (first | (go_at_call 100;refine (l02Letter_any _ _).mono ?_;rintro e w' ⟨rfl,rfl⟩) | (go_at_call 103;refine (l02Figure_any _ _).mono ?_;rintro e w' ⟨rfl,rfl⟩))
        go_round
        case rel=>exact ⟨k + 1,by omega,by go_num,by rw [HT.out,List.all_append,HA.out];simp [nameByte,HB2.out]⟩
        case measure=>simp [intOf];omega
      ·
       have HB1:=Lib.hid hb1;go_wp2_with (first | (go_at_call 100;refine (l02Letter_any _ _).mono ?_;rintro e w' ⟨rfl,rfl⟩) | (go_at_call 103;refine (l02Figure_any _ _).mono ?_;rintro e w' ⟨rfl,rfl⟩))
       go_round
       case rel=>exact ⟨k + 1,by omega,by go_num,by rw [HT.out,List.all_append,HA.out];simp [nameByte,HB1.out]⟩
       case measure=>simp [intOf];omega
     ·
      go_wp2
      go_ret
      have hw : wordB s = true:=by
       have ha:=HA.out;rw [List.take_of_length_le (by simp;omega)] at ha;simp only [wordB,h1,dite_true,h3,ha,Bool.and_true,decide_eq_true_eq];exact h2
      exact ⟨ret_bool hw.symm,rfl⟩
  ·
   have e2 : decide (12 < (s.size : Int)) = true:=by simp;omega
   go_enter Try.func102, Try.ntmps102
   go_wp2_with (go_at_call 100;refine (l02Letter_any _ _).mono ?_;rintro e w' ⟨rfl,rfl⟩)
   go_ret
   exact ⟨ret_bool (by simp [wordB,h2]),rfl⟩
 ·
  have e1 : ((s.size : Int) == 0) = true:=by rw [beq_iff_eq];omega
  go_enter Try.func102, Try.ntmps102
  go_wp2_with (go_at_call 100;refine (l02Letter_any _ _).mono ?_;rintro e w' ⟨rfl,rfl⟩)
  go_ret
  exact ⟨ret_bool (by simp [wordB,h1]),rfl⟩
theorem isName_s (s : ByteArray) (w : World) (hs : s.size ≤ 1099511627776) : Calls Try.prog 95 #[.string s] w fun e w'=>e = .returned (.bool (isNameB s)) ∧ w = w':=by
 cases h0 : (s.toList == [97,110,100])
 ·
  cases h1 : (s.toList == [99,97,108,108])
  ·
   cases h2 : (s.toList == [101,108,115,101])
   ·
    cases h3 : (s.toList == [103,108,111,98,97,108,115])
    ·
     cases h4 : (s.toList == [105,102])
     ·
      cases h5 : (s.toList == [108,111,99,107])
      ·
       cases h6 : (s.toList == [108,111,99,107,115])
       ·
        cases h7 : (s.toList == [110,111,116])
        ·
         cases h8 : (s.toList == [112,114,111,99])
         ·
          cases h9 : (s.toList == [115,107,105,112])
          ·
           cases h10 : (s.toList == [115,112,97,119,110])
           ·
            cases h11 : (s.toList == [117,110,108,111,99,107])
            ·
             cases h12 : (s.toList == [119,104,105,108,101])
             ·
              go_enter Try.func95, Try.ntmps95
              go_wp2_with (go_at_call 102;refine (l02Word_any _ _ hs).mono ?_;rintro e w' ⟨rfl,rfl⟩)
              go_ret
              exact ⟨ret_bool (by simp [isNameB,kwL,h0,h1,h2,h3,h4,h5,h6,h7,h8,h9,h10,h11,h12]),rfl⟩
             ·
              go_enter Try.func95, Try.ntmps95
              go_wp2_with fail
              go_ret
              exact ⟨ret_bool (by simp [isNameB,kwL,h0,h1,h2,h3,h4,h5,h6,h7,h8,h9,h10,h11,h12]),rfl⟩
            ·
             go_enter Try.func95, Try.ntmps95
             go_wp2_with fail
             go_ret
             exact ⟨ret_bool (by simp [isNameB,kwL,h0,h1,h2,h3,h4,h5,h6,h7,h8,h9,h10,h11]),rfl⟩
           ·
            go_enter Try.func95, Try.ntmps95
            go_wp2_with fail
            go_ret
            exact ⟨ret_bool (by simp [isNameB,kwL,h0,h1,h2,h3,h4,h5,h6,h7,h8,h9,h10]),rfl⟩
          ·
           go_enter Try.func95, Try.ntmps95
           go_wp2_with fail
           go_ret
           exact ⟨ret_bool (by simp [isNameB,kwL,h0,h1,h2,h3,h4,h5,h6,h7,h8,h9]),rfl⟩
         ·
          go_enter Try.func95, Try.ntmps95
          go_wp2_with fail
          go_ret
          exact ⟨ret_bool (by simp [isNameB,kwL,h0,h1,h2,h3,h4,h5,h6,h7,h8]),rfl⟩
        ·
         go_enter Try.func95, Try.ntmps95
         go_wp2_with fail
         go_ret
         exact ⟨ret_bool (by simp [isNameB,kwL,h0,h1,h2,h3,h4,h5,h6,h7]),rfl⟩
       ·
        go_enter Try.func95, Try.ntmps95
        go_wp2_with fail
        go_ret
        exact ⟨ret_bool (by simp [isNameB,kwL,h0,h1,h2,h3,h4,h5,h6]),rfl⟩
      ·
       go_enter Try.func95, Try.ntmps95
       go_wp2_with fail
       go_ret
       exact ⟨ret_bool (by simp [isNameB,kwL,h0,h1,h2,h3,h4,h5]),rfl⟩
     ·
      go_enter Try.func95, Try.ntmps95
      go_wp2_with fail
      go_ret
      exact ⟨ret_bool (by simp [isNameB,kwL,h0,h1,h2,h3,h4]),rfl⟩
    ·
     go_enter Try.func95, Try.ntmps95
     go_wp2_with fail
     go_ret
     exact ⟨ret_bool (by simp [isNameB,kwL,h0,h1,h2,h3]),rfl⟩
   ·
    go_enter Try.func95, Try.ntmps95
    go_wp2_with fail
    go_ret
    exact ⟨ret_bool (by simp [isNameB,kwL,h0,h1,h2]),rfl⟩
  ·
   go_enter Try.func95, Try.ntmps95
   go_wp2_with fail
   go_ret
   exact ⟨ret_bool (by simp [isNameB,kwL,h0,h1]),rfl⟩
 ·
  go_enter Try.func95, Try.ntmps95
  go_wp2_with fail
  go_ret
  exact ⟨ret_bool (by simp [isNameB,kwL,h0]),rfl⟩
theorem isName_i (s : ByteArray) (w : World) (hs : s.size ≤ 1099511627776) : Calls Try.prog 74 #[.string s] w fun e w'=>e = .returned (.bool (isNameB s)) ∧ w = w':=by
 by_cases h1 : 0 < s.size
 ·
  have e1 : decide ((s.size : Int) < 1) = false:=by simp;omega
  by_cases h2 : s.size ≤ 12
  ·
   have e2 : decide (12 < (s.size : Int)) = false:=by simp;omega
   cases h3 : letterB (s[0]'h1).toNat
   ·
    go_enter Try.func74, Try.ntmps74
    go_wp2_with (go_at_call 91;refine (isSmall_any _ _).mono ?_;rintro e w' ⟨rfl,rfl⟩)
    go_ret
    exact ⟨ret_bool (by simp [isNameB,wordB,h1,h3]),rfl⟩
   ·
    go_enter Try.func74, Try.ntmps74
    go_wp2_with (go_at_call 91;refine (isSmall_any _ _).mono ?_;rintro e w' ⟨rfl,rfl⟩)
    go_loop [3] (fun i=>∃ k : Nat,k ≤ s.size ∧ i = .int .i64 k ∧ (s.data.toList.take k).all nameByte = true) (fun i=>s.size - (intOf i).toNat)
    case atStart=>exact ⟨0,by omega,rfl,rfl⟩
    case round =>
     obtain ⟨k,hk,rfl,hall⟩:=hrel;have HA:=Lib.hid hall;clear hall;by_cases hlt : k < s.size
     ·
      have HT:=Lib.hid (take_snoc s k hlt);cases hb1 : letterB (s[k]'hlt).toNat
      ·
       cases hb2 : figureB (s[k]'hlt).toNat
       ·
        have HB1:=Lib.hid hb1;have HB2:=Lib.hid hb2;go_wp2_with (first | (go_at_call 91;refine (isSmall_any _ _).mono ?_;rintro e w' ⟨rfl,rfl⟩) | (go_at_call 92;refine (isFigure_any _ _).mono ?_;rintro e w' ⟨rfl,rfl⟩))
        go_ret
        exact ⟨ret_bool (by rw [isNameB,wordB,dif_pos h1,all_false s k hlt (by simp [nameByte,HB1.out,HB2.out])];simp),rfl⟩
       ·
        have HB2:=Lib.hid hb2;go_wp2_with (first | (go_at_call 91;refine (isSmall_any _ _).mono ?_;rintro e w' ⟨rfl,rfl⟩) | (go_at_call 92;refine (isFigure_any _ _).mono ?_;rintro e w' ⟨rfl,rfl⟩))
        go_round
        case rel=>exact ⟨k + 1,by omega,by go_num,by rw [HT.out,List.all_append,HA.out];simp [nameByte,HB2.out]⟩
        case measure=>simp [intOf];omega
      ·
       have HB1:=Lib.hid hb1;go_wp2_with (first | (go_at_call 91;refine (isSmall_any _ _).mono ?_;rintro e w' ⟨rfl,rfl⟩) | (go_at_call 92;refine (isFigure_any _ _).mono ?_;rintro e w' ⟨rfl,rfl⟩))
       go_round
       case rel=>exact ⟨k + 1,by omega,by go_num,by rw [HT.out,List.all_append,HA.out];simp [nameByte,HB1.out]⟩
       case measure=>simp [intOf];omega
     ·
      have hw : wordB s = true:=by
       have ha:=HA.out;rw [List.take_of_length_le (by simp;omega)] at ha;simp only [wordB,h1,dite_true,h3,ha,Bool.and_true,decide_eq_true_eq];exact h2
      have HW:=Lib.hid hw;clear hw;cases h10 : (s.toList == [97,110,100])
      ·
       cases h11 : (s.toList == [99,97,108,108])
       ·
        cases h12 : (s.toList == [101,108,115,101])
        ·
         cases h13 : (s.toList == [103,108,111,98,97,108,115])
         ·
          cases h14 : (s.toList == [105,102])
          ·
           cases h15 : (s.toList == [108,111,99,107])
           ·
            cases h16 : (s.toList == [108,111,99,107,115])
            ·
             cases h17 : (s.toList == [110,111,116])
             ·
              cases h18 : (s.toList == [112,114,111,99])
              ·
               cases h19 : (s.toList == [115,107,105,112])
               ·
                cases h20 : (s.toList == [115,112,97,119,110])
                ·
                 cases h21 : (s.toList == [117,110,108,111,99,107])
                 ·
                  cases h22 : (s.toList == [119,104,105,108,101])
                  ·
                   go_wp2
                   go_ret
                   exact ⟨ret_bool (by simp [isNameB,HW.out,kwL,h10,h11,h12,h13,h14,h15,h16,h17,h18,h19,h20,h21,h22]),rfl⟩
                  ·
                   go_wp2
                   go_ret
                   exact ⟨ret_bool (by simp [isNameB,kwL,h10,h11,h12,h13,h14,h15,h16,h17,h18,h19,h20,h21,h22]),rfl⟩
                 ·
                  go_wp2
                  go_ret
                  exact ⟨ret_bool (by simp [isNameB,kwL,h10,h11,h12,h13,h14,h15,h16,h17,h18,h19,h20,h21]),rfl⟩
                ·
                 go_wp2
                 go_ret
                 exact ⟨ret_bool (by simp [isNameB,kwL,h10,h11,h12,h13,h14,h15,h16,h17,h18,h19,h20]),rfl⟩
               ·
                go_wp2
                go_ret
                exact ⟨ret_bool (by simp [isNameB,kwL,h10,h11,h12,h13,h14,h15,h16,h17,h18,h19]),rfl⟩
              ·
               go_wp2
               go_ret
               exact ⟨ret_bool (by simp [isNameB,kwL,h10,h11,h12,h13,h14,h15,h16,h17,h18]),rfl⟩
             ·
              go_wp2
              go_ret
              exact ⟨ret_bool (by simp [isNameB,kwL,h10,h11,h12,h13,h14,h15,h16,h17]),rfl⟩
            ·
             go_wp2
             go_ret
             exact ⟨ret_bool (by simp [isNameB,kwL,h10,h11,h12,h13,h14,h15,h16]),rfl⟩
           ·
            go_wp2
            go_ret
            exact ⟨ret_bool (by simp [isNameB,kwL,h10,h11,h12,h13,h14,h15]),rfl⟩
          ·
           go_wp2
           go_ret
           exact ⟨ret_bool (by simp [isNameB,kwL,h10,h11,h12,h13,h14]),rfl⟩
         ·
          go_wp2
          go_ret
          exact ⟨ret_bool (by simp [isNameB,kwL,h10,h11,h12,h13]),rfl⟩
        ·
         go_wp2
         go_ret
         exact ⟨ret_bool (by simp [isNameB,kwL,h10,h11,h12]),rfl⟩
       ·
        go_wp2
        go_ret
        exact ⟨ret_bool (by simp [isNameB,kwL,h10,h11]),rfl⟩
      ·
       go_wp2
       go_ret
       exact ⟨ret_bool (by simp [isNameB,kwL,h10]),rfl⟩
  ·
   have e2 : decide (12 < (s.size : Int)) = true:=by simp;omega
   go_enter Try.func74, Try.ntmps74
   go_wp2_with (go_at_call 91;refine (isSmall_any _ _).mono ?_;rintro e w' ⟨rfl,rfl⟩)
   go_ret
   exact ⟨ret_bool (by simp [isNameB,wordB,h2]),rfl⟩
 ·
  have e1 : decide ((s.size : Int) < 1) = true:=by simp;omega
  go_enter Try.func74, Try.ntmps74
  go_wp2_with (go_at_call 91;refine (isSmall_any _ _).mono ?_;rintro e w' ⟨rfl,rfl⟩)
  go_ret
  exact ⟨ret_bool (by simp [isNameB,wordB,h1]),rfl⟩
end Go.Proofs.Ytkgoajnnkimkaaa
namespace Go.Proofs.Ytkgoajnnkimkaaa
open Go.ChangeShapes Go.WideShapes Go.ChangeAt Go.RowKit
theorem str_inj {a b : ByteArray} (h : a.toList = b.toList) : a = b:=by
 rw [ByteArray.toList_eq,ByteArray.toList_eq] at h;exact ByteArray.ext (Array.toList_inj.1 h)
theorem str_beq (a b : ByteArray) : (a.toList == b.toList) = decide (a = b):=by
 rw [Bool.eq_iff_iff,beq_iff_eq,decide_eq_true_eq];exact ⟨str_inj,fun h=>by rw [h]⟩
instance : LawfulBEq ByteArray where
 eq_of_beq:=fun {a b} h=>by
  rw [beq_toListBytes,beq_iff_eq] at h;exact str_inj h
 rfl:=fun {a}=>by rw [beq_toListBytes,beq_iff_eq]
def placeOf (ss : List ByteArray) (t : ByteArray) : Int:=if t ∈ ss then ((ss.idxOf t : Nat) : Int) else -1
theorem placeOf_at {ss : List ByteArray} {t : ByteArray} {k : Nat} (hk : k < ss.length) (he : ss[k] = t) (hn : t ∉ ss.take k) : placeOf ss t = k:=by
 have hm : t ∈ ss:=he ▸ List.getElem_mem hk;rw [placeOf,if_pos hm];congr 1
 have e : ss = ss.take k ++ ss.drop k:=(List.take_append_drop k ss).symm;rw [e,List.idxOf_append,if_neg hn,List.drop_eq_getElem_cons hk,he,List.idxOf_cons_self];simp;omega
theorem placeOf_none {ss : List ByteArray} {t : ByteArray} (hn : t ∉ ss) : placeOf ss t = -1:=by rw [placeOf,if_neg hn]
theorem not_mem_take_succ {ss : List ByteArray} {t : ByteArray} {k : Nat} (hk : k < ss.length) (hn : t ∉ ss.take k) (he : ss[k] ≠ t) : t ∉ ss.take (k + 1):=by
 rw [List.take_succ_eq_append_getElem hk];intro h;rcases List.mem_append.1 h with h | h
 · exact hn h
 · exact he (List.mem_singleton.1 h).symm
theorem sIndex_any {B : Nat} (A : Option Addr) (c : Nat) (ss : List ByteArray) (t : ByteArray) (w : World) (h : Rd w B A (ss.map sv)) (hn : ss.length ≤ 1099511627776) :
  Calls Try.prog 75 #[.slice A ss.length c,.string t] w fun e w'=>e = .returned (.int .i64 (placeOf ss t)) ∧ w = w':=by
 go_enter Try.func75, Try.ntmps75
 go_wp2
 go_loop [8] (fun i=>∃ k : Nat,k ≤ ss.length ∧ i = .int .i64 k ∧ t ∉ ss.take k) (fun i=>ss.length - (intOf i).toNat)
 case atStart=>exact ⟨0,by omega,rfl,by simp⟩
 case round =>
  obtain ⟨k,hk,rfl,hnot⟩:=hrel;have HN:=Lib.hid hnot;clear hnot;by_cases hlt : k < ss.length
  ·
   obtain ⟨ad,rfl,_,hc⟩:=h.str hlt;by_cases he : ss[k] = t
   ·
    have HE:=Lib.hid he;rw [he] at hc;clear he;go_wp2
    go_ret
    exact ⟨ret_int (placeOf_at hlt HE.out HN.out).symm,rfl⟩
   ·
    have he' : (t.toList == ss[k].toList) = false:=by rw [str_beq,decide_eq_false];exact fun h=>he h.symm
    have HE:=Lib.hid he;clear he;go_wp2
    go_round
    case rel=>exact ⟨k + 1,by omega,by go_num,not_mem_take_succ hlt HN.out HE.out⟩
    case measure=>simp [intOf];omega
  ·
   go_wp2
   go_ret
   have hf : t ∉ ss:=by have:=HN.out;rwa [List.take_of_length_le (by omega)] at this
   exact ⟨ret_int (placeOf_none hf).symm,rfl⟩
theorem sContains_any {B : Nat} (A : Option Addr) (c : Nat) (ss : List ByteArray) (t : ByteArray) (w : World) (h : Rd w B A (ss.map sv)) (hn : ss.length ≤ 1099511627776) :
  Calls Try.prog 54 #[.slice A ss.length c,.string t] w fun e w'=>e = .returned (.bool (decide (t ∈ ss))) ∧ w = w':=by
 go_enter Try.func54, Try.ntmps54
 go_wp2_with (go_at_call 75;refine (sIndex_any _ _ _ _ _ h hn).mono ?_;rintro e w' ⟨rfl,rfl⟩)
 go_ret
 refine ⟨ret_bool ?_,rfl⟩;by_cases hm : t ∈ ss
 · rw [placeOf,if_pos hm,decide_eq_true hm,decide_eq_true (by omega)]
 · rw [placeOf,if_neg hm,decide_eq_false hm];rfl
theorem placeOf_s {B : Nat} (A : Option Addr) (c : Nat) (ss : List ByteArray) (t : ByteArray) (w : World) (h : Rd w B A (ss.map sv)) (hn : ss.length ≤ 1099511627776) :
  Calls Try.prog 83 #[.slice A ss.length c,.string t] w fun e w'=>e = .returned (.int .i64 (placeOf ss t)) ∧ w = w':=by
 go_enter Try.func83, Try.ntmps83
 go_wp2
 go_loop [5] (fun i=>∃ k : Nat,k ≤ ss.length ∧ i = .int .i64 k ∧ t ∉ ss.take k) (fun i=>ss.length - (intOf i).toNat)
 case atStart=>exact ⟨0,by omega,rfl,by simp⟩
 case round =>
  obtain ⟨k,hk,rfl,hnot⟩:=hrel;have HN:=Lib.hid hnot;clear hnot;by_cases hlt : k < ss.length
  ·
   obtain ⟨ad,rfl,_,hc⟩:=h.str hlt;by_cases he : ss[k] = t
   ·
    have HE:=Lib.hid he;rw [he] at hc;clear he;go_wp2
    go_ret
    exact ⟨ret_int (placeOf_at hlt HE.out HN.out).symm,rfl⟩
   ·
    have he' : (ss[k].toList == t.toList) = false:=by rw [str_beq,decide_eq_false];exact fun h=>he h
    have HE:=Lib.hid he;clear he;go_wp2
    go_round
    case rel=>exact ⟨k + 1,by omega,by go_num,not_mem_take_succ hlt HN.out HE.out⟩
    case measure=>simp [intOf];omega
  ·
   go_wp2
   go_ret
   have hf : t ∉ ss:=by have:=HN.out;rwa [List.take_of_length_le (by omega)] at this
   exact ⟨ret_int (placeOf_none hf).symm,rfl⟩
theorem l04Has_any {B : Nat} (A : Option Addr) (c : Nat) (ss : List ByteArray) (t : ByteArray) (w : World) (h : Rd w B A (ss.map sv)) (hn : ss.length ≤ 1099511627776) :
  Calls Try.prog 97 #[.slice A ss.length c,.string t] w fun e w'=>e = .returned (.bool (decide (t ∈ ss))) ∧ w = w':=by
 go_enter Try.func97, Try.ntmps97
 go_wp2
 go_loop [5] (fun i=>∃ k : Nat,k ≤ ss.length ∧ i = .int .i64 k ∧ t ∉ ss.take k) (fun i=>ss.length - (intOf i).toNat)
 case atStart=>exact ⟨0,by omega,rfl,by simp⟩
 case round =>
  obtain ⟨k,hk,rfl,hnot⟩:=hrel;have HN:=Lib.hid hnot;clear hnot;by_cases hlt : k < ss.length
  ·
   obtain ⟨ad,rfl,_,hc⟩:=h.str hlt;by_cases he : ss[k] = t
   ·
    have HE:=Lib.hid he;rw [he] at hc;clear he;go_wp2
    go_ret
    exact ⟨ret_bool (decide_eq_true (HE.out ▸ List.getElem_mem hlt)).symm,rfl⟩
   ·
    have he' : (ss[k].toList == t.toList) = false:=by rw [str_beq,decide_eq_false];exact fun h=>he h
    have HE:=Lib.hid he;clear he;go_wp2
    go_round
    case rel=>exact ⟨k + 1,by omega,by go_num,not_mem_take_succ hlt HN.out HE.out⟩
    case measure=>simp [intOf];omega
  ·
   go_wp2
   go_ret
   have hf : t ∉ ss:=by have:=HN.out;rwa [List.take_of_length_le (by omega)] at this
   exact ⟨ret_bool (decide_eq_false hf).symm,rfl⟩
def areNamesB (ss : List ByteArray) (m : Nat) : Bool:=decide (ss.length ≤ m) && ss.all isNameB
theorem areNames_any {B : Nat} (A : Option Addr) (c : Nat) (ss : List ByteArray) (m : Nat) (w : World) (h : Rd w B A (ss.map sv)) (hn : ss.length ≤ 1099511627776) (hm : m ≤ 100) (hss : ∀ s ∈ ss, s.size ≤ 1099511627776) :
  Calls Try.prog 52 #[.slice A ss.length c,.int .i64 m] w fun e w'=>e = .returned (.bool (areNamesB ss m)) ∧ w = w':=by
 by_cases hl : ss.length ≤ m
 ·
  have hd : decide (m < ss.length) = false:=by simp;omega
  go_enter Try.func52, Try.ntmps52
  go_wp2
  go_loop [13] (fun i=>∃ k : Nat,k ≤ ss.length ∧ i = .int .i64 k ∧ (ss.take k).all isNameB = true) (fun i=>ss.length - (intOf i).toNat)
  case atStart=>exact ⟨0,by omega,rfl,rfl⟩
  case round =>
   obtain ⟨k,hk,rfl,hall⟩:=hrel;have HA:=Lib.hid hall;clear hall;by_cases hlt : k < ss.length
   ·
    obtain ⟨ad,rfl,_,hc⟩:=h.str hlt;have hz:=hss _ (List.getElem_mem hlt);have HT:=Lib.hid (List.take_succ_eq_append_getElem hlt);have HM:=Lib.hid (List.getElem_mem hlt);clear hss;cases hb : isNameB ss[k]
    ·
     have HB:=Lib.hid hb;clear hb;go_wp2_with (go_at_call 74;refine (isName_i _ _ hz).mono ?_;rintro e w' ⟨rfl,rfl⟩;rw [HB.out])
     go_ret
     refine ⟨ret_bool ?_,rfl⟩;have : ss.all isNameB = false:=List.all_eq_false.2 ⟨_,HM.out,by simp [HB.out]⟩;rw [areNamesB,this];simp
    ·
     have HB:=Lib.hid hb;clear hb;go_wp2_with (go_at_call 74;refine (isName_i _ _ hz).mono ?_;rintro e w' ⟨rfl,rfl⟩;rw [HB.out])
     go_round
     case rel=>exact ⟨k + 1,by omega,by go_num,by rw [HT.out,List.all_append,HA.out];simp [HB.out]⟩
     case measure=>simp [intOf];omega
   ·
    go_wp2
    go_ret
    have ha : ss.all isNameB = true:=by have:=HA.out;rwa [List.take_of_length_le (by omega)] at this
    exact ⟨ret_bool (by rw [areNamesB,ha,decide_eq_true hl];rfl),rfl⟩
 ·
  go_enter Try.func52, Try.ntmps52
  go_wp2
  go_ret
  exact ⟨ret_bool (by rw [areNamesB,decide_eq_false hl];rfl),rfl⟩
theorem l05Names_any {B : Nat} (A : Option Addr) (c : Nat) (ss : List ByteArray) (m : Nat) (w : World) (h : Rd w B A (ss.map sv)) (hn : ss.length ≤ 1099511627776) (hm : m ≤ 100) (hss : ∀ s ∈ ss, s.size ≤ 1099511627776) :
  Calls Try.prog 94 #[.slice A ss.length c,.int .i64 m] w fun e w'=>e = .returned (.bool (areNamesB ss m)) ∧ w = w':=by
 by_cases hl : ss.length ≤ m
 ·
  have hd : decide (m < ss.length) = false:=by simp;omega
  go_enter Try.func94, Try.ntmps94
  go_wp2
  go_loop [5] (fun i=>∃ k : Nat,k ≤ ss.length ∧ i = .int .i64 k ∧ (ss.take k).all isNameB = true) (fun i=>ss.length - (intOf i).toNat)
  case atStart=>exact ⟨0,by omega,rfl,rfl⟩
  case round =>
   obtain ⟨k,hk,rfl,hall⟩:=hrel;have HA:=Lib.hid hall;clear hall;by_cases hlt : k < ss.length
   ·
    obtain ⟨ad,rfl,_,hc⟩:=h.str hlt;have hz:=hss _ (List.getElem_mem hlt);have HT:=Lib.hid (List.take_succ_eq_append_getElem hlt);have HM:=Lib.hid (List.getElem_mem hlt);clear hss;cases hb : isNameB ss[k]
    ·
     have HB:=Lib.hid hb;clear hb;go_wp2_with (go_at_call 95;refine (isName_s _ _ hz).mono ?_;rintro e w' ⟨rfl,rfl⟩;rw [HB.out])
     go_ret
     refine ⟨ret_bool ?_,rfl⟩;have : ss.all isNameB = false:=List.all_eq_false.2 ⟨_,HM.out,by simp [HB.out]⟩;rw [areNamesB,this];simp
    ·
     have HB:=Lib.hid hb;clear hb;go_wp2_with (go_at_call 95;refine (isName_s _ _ hz).mono ?_;rintro e w' ⟨rfl,rfl⟩;rw [HB.out])
     go_round
     case rel=>exact ⟨k + 1,by omega,by go_num,by rw [HT.out,List.all_append,HA.out];simp [HB.out]⟩
     case measure=>simp [intOf];omega
   ·
    go_wp2
    go_ret
    have ha : ss.all isNameB = true:=by have:=HA.out;rwa [List.take_of_length_le (by omega)] at this
    exact ⟨ret_bool (by rw [areNamesB,ha,decide_eq_true hl];rfl),rfl⟩
 ·
  go_enter Try.func94, Try.ntmps94
  go_wp2
  go_ret
  exact ⟨ret_bool (by rw [areNamesB,decide_eq_false hl];rfl),rfl⟩
def twiceB (ss : List ByteArray) : Bool:=!decide ss.Nodup
theorem twice_take {ss : List ByteArray} {k : Nat} (hk : k < ss.length) (h : (ss.take k).Nodup) (hn : ss[k] ∉ ss.take k) : (ss.take (k + 1)).Nodup:=by
 rw [List.take_succ_eq_append_getElem hk,List.nodup_append];exact ⟨h,by simp,fun a ha b hb e=>by
  rw [List.mem_singleton] at hb;subst hb;subst e;exact hn ha⟩
theorem twice_of {ss : List ByteArray} {k : Nat} (hk : k < ss.length) (hn : ss[k] ∈ ss.take k) : ¬ ss.Nodup:=by
 intro h;have h1 : (ss.take (k + 1)).Nodup:=h.sublist (List.take_sublist _ _);rw [List.take_succ_eq_append_getElem hk,List.nodup_append] at h1;exact h1.2.2 _ hn _ (List.mem_singleton.2 rfl) rfl
theorem rd_take {w : World} {B : Nat} {A : Option Addr} {xs : List Value} (h : Rd w B A xs) (k : Nat) : Rd w B A (xs.take k):=by
 intro j u hu;rw [List.getElem?_take] at hu;by_cases hj : j < k
 · rw [if_pos hj] at hu;exact h j u hu
 · rw [if_neg hj] at hu;cases hu
theorem l07Twice_any {B : Nat} (A : Option Addr) (c : Nat) (ss : List ByteArray) (w : World) (h : Rd w B A (ss.map sv)) (hn : ss.length ≤ 1099511627776) (hcap : ss.length ≤ c) :
  Calls Try.prog 79 #[.slice A ss.length c] w fun e w'=>e = .returned (.bool (twiceB ss)) ∧ Drew w w':=by
 go_enter Try.func79, Try.ntmps79
 go_wp2
 go_loopw [3] (fun i wr=>∃ k : Nat,k ≤ ss.length ∧ i = .int .i64 k ∧ (ss.take k).Nodup ∧ Drew w wr) (fun i _=>ss.length - (intOf i).toNat)
 case atStart=>exact ⟨0,by omega,rfl,by simp,Drew.refl _⟩
 case round =>
  obtain ⟨k,hk,rfl,hnd,hq⟩:=hrel;have HN:=Lib.hid hnd;have HT:=Lib.hid (List.length_take_of_le hk);clear hnd;by_cases hlt : k < ss.length
  ·
   have hr:=hq.rd h;obtain ⟨ad,rfl,_,hc⟩:=hr.str hlt;have h1 : (0 : Int) ≤ (k : Int):=by omega
   have h2 : (k : Int) ≤ (c : Int):=by omega
   have h3 : (k : Int) < (ss.length : Int):=by omega
   have hcall : ∀ (b : Bool),decide (ss[k] ∈ ss.take k) = b → ∀ (W : World) (d : Nat),Rd W B (some ad) (ss.map sv) → Calls Try.prog 97 #[.slice (some ad) k d,.string ss[k]] W fun e w'=>e = .returned (.bool b) ∧ W = w':=by
    intro b hb W d hW;have:=l04Has_any (some ad) d (ss.take k) ss[k] W (by rw [List.map_take];exact rd_take hW k) (by have:=HT.out;omega)
    rwa [HT.out,hb] at this
   by_cases hm : ss[k] ∈ ss.take k
   ·
    have HM:=Lib.hid hm;have HC:=Lib.hid (hcall true (decide_eq_true hm));clear hm hcall;go_wp2
    go_quiet ((go_at_call 97;exact quiet_left (HC.out _ _ hr)))
    go_wp2
    go_ret
    exact ⟨ret_bool (by rw [twiceB,decide_eq_false (twice_of hlt HM.out)];rfl),hq.more _⟩
   ·
    have HM:=Lib.hid hm;have HC:=Lib.hid (hcall false (decide_eq_false hm));clear hm hcall;go_wp2
    go_quiet ((go_at_call 97;exact quiet_left (HC.out _ _ hr)))
    go_wp2
    go_roundw
    case rel=>exact ⟨k + 1,by omega,by go_num,twice_take hlt HN.out HM.out,hq.more _⟩
    case measure=>simp [intOf];omega
  ·
   go_wp2
   go_ret
   have hf : ss.Nodup:=by have:=HN.out;rwa [List.take_of_length_le (by omega)] at this
   exact ⟨ret_bool (by rw [twiceB,decide_eq_true hf];rfl),hq⟩
theorem rd_drop {w : World} {B : Nat} {ad : Addr} {xs : List Value} (h : Rd w B (some ad) xs) (k : Nat) : Rd w B (some ⟨ad.block,ad.off + (k + 1),none⟩) (xs.drop (k + 1)):=by
 intro j u hu;rw [List.getElem?_drop] at hu;obtain ⟨ad',e,hb,hcell⟩:=h _ u hu;cases e
 refine ⟨_,rfl,hb,?_⟩;rw [← hcell,← add_of_add];rfl
theorem twice_drop {ss : List ByteArray} {k : Nat} (hk : k < ss.length) : ¬ (ss.drop k).Nodup ↔ ss[k] ∈ ss.drop (k + 1) ∨ ¬ (ss.drop (k + 1)).Nodup:=by
 rw [List.drop_eq_getElem_cons hk,List.nodup_cons];by_cases h : ss[k] ∈ ss.drop (k + 1) <;> simp [h]
theorem hasTwice_any {B : Nat} (A : Option Addr) (c : Nat) (ss : List ByteArray) (w : World) (h : Rd w B A (ss.map sv)) (hn : ss.length ≤ 1099511627776) (hcap : ss.length ≤ c) :
  Calls Try.prog 53 #[.slice A ss.length c] w fun e w'=>e = .returned (.bool (twiceB ss)) ∧ w = w':=by
 go_enter Try.func53, Try.ntmps53
 go_wp2
 go_loop [7] (fun i=>∃ k : Nat,k ≤ ss.length ∧ i = .int .i64 k ∧ (ss.Nodup ↔ (ss.drop k).Nodup)) (fun i=>ss.length - (intOf i).toNat)
 case atStart=>exact ⟨0,by omega,rfl,by simp⟩
 case round =>
  obtain ⟨k,hk,rfl,hnd⟩:=hrel;have HN:=Lib.hid hnd;clear hnd;by_cases hlt : k < ss.length
  ·
   obtain ⟨ad,rfl,_,hc⟩:=h.str hlt;have h1 : (0 : Int) ≤ (k : Int):=by omega
   have h2 : (k : Int) + 1 ≤ (ss.length : Int):=by omega
   have h4 : (k : Int) + 1 ≤ (c : Int):=by omega
   have h3 : (k : Int) < (ss.length : Int):=by omega
   have hr:=rd_drop h k;rw [← List.map_drop] at hr;have hcall : ∀ (b : Bool),decide (ss[k] ∈ ss.drop (k + 1)) = b → ∀ (A' : Option Addr) (d : Nat),Rd w B A' ((ss.drop (k + 1)).map sv) → Calls Try.prog 54 #[.slice A' (ss.length - (k + 1)) d,.string ss[k]] w fun e w'=>e = .returned (.bool b) ∧ w = w':=by
    intro b hb A' d hW;have:=sContains_any A' d (ss.drop (k + 1)) ss[k] w hW (by simp;omega)
    rwa [List.length_drop,hb] at this
   have HTD:=Lib.hid (twice_drop hlt);by_cases hck : c = k + 1
   ·
    subst hck;have hl : ss.length = k + 1:=by omega
    have hd : ss.drop (k + 1) = []:=List.drop_of_length_le (by omega);have hc0:=hcall false (decide_eq_false (by rw [hd];exact List.not_mem_nil)) (some ad) 0 (by rw [hd];exact Rd.nil);rw [show ss.length - (k + 1) = 0 from by omega] at hc0;have HC:=Lib.hid hc0;have HD:=Lib.hid hd;clear hcall hr hd hl hc0;go_wp2_with (go_at_call 54;refine HC.out.mono ?_;rintro e w' ⟨rfl,rfl⟩)
    go_round
    case rel=>exact ⟨k + 1,by omega,by go_num,by
     have h5:=HTD.out;rw [HD.out] at h5 ⊢;rw [HN.out];simpa using h5⟩
    case measure=>simp [intOf];omega
   ·
    by_cases hm : ss[k] ∈ ss.drop (k + 1)
    ·
     have HC:=Lib.hid (hcall true (decide_eq_true hm) _ (c - (k + 1)) hr);have HM:=Lib.hid hm;clear hcall hr hm;go_wp2_with (go_at_call 54;refine HC.out.mono ?_;rintro e w' ⟨rfl,rfl⟩)
     go_ret
     have hf : ¬ ss.Nodup:=by rw [HN.out];exact HTD.out.2 (.inl HM.out)
     exact ⟨ret_bool (by rw [twiceB,decide_eq_false hf];rfl),rfl⟩
    ·
     have HC:=Lib.hid (hcall false (decide_eq_false hm) _ (c - (k + 1)) hr);have HM:=Lib.hid hm;clear hcall hr hm;go_wp2_with (go_at_call 54;refine HC.out.mono ?_;rintro e w' ⟨rfl,rfl⟩)
     go_round
     case rel=>exact ⟨k + 1,by omega,by go_num,by
      have h5:=HTD.out;rw [HN.out];have h6:=HM.out;constructor
      · intro h7;exact Classical.byContradiction fun h8=>h5.2 (.inr h8) h7
      · intro h7;exact Classical.byContradiction fun h8=>(h5.1 h8).elim h6 (fun h9=>h9 h7)⟩
     case measure=>simp [intOf];omega
  ·
   go_wp2
   go_ret
   have hf : ss.Nodup:=by rw [HN.out,List.drop_of_length_le (by omega)];simp
   exact ⟨ret_bool (by rw [twiceB,decide_eq_true hf];rfl),rfl⟩
end Go.Proofs.Ytkgoajnnkimkaaa
