/- Contracts of IsName and what it calls, of the program and of the reference, at every text. -/
import Derived.Test.YtjnlmiekldflhaaMem
import Derived.WalkLawsBesides
import Derived.WalkSpells
set_option linter.unusedSimpArgs false
set_option linter.unusedVariables false
namespace Go.Proofs.Ytjnlmiekldflhaa
open Go.ChangeShapes Go.WideShapes Go.ChangeAt Go.RowKit

def letterB (n : Int) : Bool := decide (97 ≤ n) && decide (n ≤ 122)
def figureB (n : Int) : Bool := decide (48 ≤ n) && decide (n ≤ 57)

theorem isSmall_any (n : Int) (w : World) : Calls Try.prog 147 #[.int .u8 n] w fun e w' => e = .returned (.bool (letterB n)) ∧ w = w' := by
  go_enter Try.func147, Try.ntmps147
  go_wp2
  all_goals go_ret
  all_goals refine ⟨?_, rfl⟩
  all_goals simp [letterB, *]
  omega
theorem isFigure_any (n : Int) (w : World) : Calls Try.prog 148 #[.int .u8 n] w fun e w' => e = .returned (.bool (figureB n)) ∧ w = w' := by
  go_enter Try.func148, Try.ntmps148
  go_wp2
  all_goals go_ret
  all_goals refine ⟨?_, rfl⟩
  all_goals simp [figureB, *]
  omega
theorem l02Letter_any (n : Int) (w : World) : Calls Try.prog 151 #[.int .u8 n] w fun e w' => e = .returned (.bool (letterB n)) ∧ w = w' := by
  go_enter Try.func151, Try.ntmps151
  go_wp2
  all_goals go_ret
  all_goals refine ⟨?_, rfl⟩
  all_goals simp [letterB, *]
  omega
theorem l02Figure_any (n : Int) (w : World) : Calls Try.prog 152 #[.int .u8 n] w fun e w' => e = .returned (.bool (figureB n)) ∧ w = w' := by
  go_enter Try.func152, Try.ntmps152
  go_wp2
  all_goals go_ret
  all_goals refine ⟨?_, rfl⟩
  all_goals simp [figureB, *]
  omega

/-- A byte that may stand in a name. -/
def nameByte (b : UInt8) : Bool := letterB b.toNat || figureB b.toNat
/-- Small letters and figures, the first one a letter, at most twelve. -/
def wordB (s : ByteArray) : Bool := if h : 0 < s.size then decide (s.size ≤ 12) && letterB (s[0]'h).toNat && s.data.toList.all nameByte else false
/-- The words that are no names. -/
def kwL : List (List UInt8) := [[97, 110, 100], [99, 97, 108, 108], [101, 108, 115, 101], [103, 108, 111, 98, 97, 108, 115], [105, 102], [108, 111, 99, 107], [108, 111, 99, 107, 115], [110, 111, 116], [112, 114, 111, 99], [115, 107, 105, 112], [115, 112, 97, 119, 110], [117, 110, 108, 111, 99, 107], [119, 104, 105, 108, 101]]
/-- What IsName answers. -/
def isNameB (s : ByteArray) : Bool := wordB s && !kwL.any fun l => s.toList == l

theorem take_snoc (s : ByteArray) (k : Nat) (h : k < s.size) : s.data.toList.take (k + 1) = s.data.toList.take k ++ [s[k]] := by
  rw [List.take_succ_eq_append_getElem (by simpa using h)]; rfl
theorem all_false (s : ByteArray) (k : Nat) (h : k < s.size) (hf : nameByte s[k] = false) : s.data.toList.all nameByte = false := by
  rw [List.all_eq_false]
  exact ⟨s[k], by rw [Array.mem_toList_iff]; exact Array.getElem_mem _, by simp [hf]⟩

theorem l02Word_any (s : ByteArray) (w : World) (hs : s.size ≤ 1099511627776) : Calls Try.prog 150 #[.string s] w fun e w' => e = .returned (.bool (wordB s)) ∧ w = w' := by
  by_cases h1 : 0 < s.size
  · have e1 : ((s.size : Int) == 0) = false := by rw [beq_eq_false_iff_ne]; omega
    by_cases h2 : s.size ≤ 12
    · have e2 : decide (12 < (s.size : Int)) = false := by simp; omega
      cases h3 : letterB (s[0]'h1).toNat
      · go_enter Try.func150, Try.ntmps150
        go_wp2_with (go_at_call 151; refine (l02Letter_any _ _).mono ?_; rintro e w' ⟨rfl, rfl⟩)
        go_ret
        exact ⟨ret_bool (by simp [wordB, h1, h3]), rfl⟩
      · go_enter Try.func150, Try.ntmps150
        go_wp2_with (go_at_call 151; refine (l02Letter_any _ _).mono ?_; rintro e w' ⟨rfl, rfl⟩)
        go_loop [3] (fun i => ∃ k : Nat, k ≤ s.size ∧ i = .int .i64 k ∧ (s.data.toList.take k).all nameByte = true) (fun i => s.size - (intOf i).toNat)
        case atStart => exact ⟨0, by omega, rfl, rfl⟩
        case round =>
          obtain ⟨k, hk, rfl, hall⟩ := hrel
          have HA := Lib.hid hall
          clear hall
          by_cases hlt : k < s.size
          · have HT := Lib.hid (take_snoc s k hlt)
            cases hb1 : letterB (s[k]'hlt).toNat
            · cases hb2 : figureB (s[k]'hlt).toNat
              · have HB1 := Lib.hid hb1
                have HB2 := Lib.hid hb2
                go_wp2_with (first | (go_at_call 151; refine (l02Letter_any _ _).mono ?_; rintro e w' ⟨rfl, rfl⟩) | (go_at_call 152; refine (l02Figure_any _ _).mono ?_; rintro e w' ⟨rfl, rfl⟩))
                go_ret
                exact ⟨ret_bool (by rw [wordB, dif_pos h1, all_false s k hlt (by simp [nameByte, HB1.out, HB2.out])]; simp), rfl⟩
              · have HB2 := Lib.hid hb2
                go_wp2_with (first | (go_at_call 151; refine (l02Letter_any _ _).mono ?_; rintro e w' ⟨rfl, rfl⟩) | (go_at_call 152; refine (l02Figure_any _ _).mono ?_; rintro e w' ⟨rfl, rfl⟩))
                go_round
                case rel => exact ⟨k + 1, by omega, by go_num, by rw [HT.out, List.all_append, HA.out]; simp [nameByte, HB2.out]⟩
                case measure => simp [intOf]; omega
            · have HB1 := Lib.hid hb1
              go_wp2_with (first | (go_at_call 151; refine (l02Letter_any _ _).mono ?_; rintro e w' ⟨rfl, rfl⟩) | (go_at_call 152; refine (l02Figure_any _ _).mono ?_; rintro e w' ⟨rfl, rfl⟩))
              go_round
              case rel => exact ⟨k + 1, by omega, by go_num, by rw [HT.out, List.all_append, HA.out]; simp [nameByte, HB1.out]⟩
              case measure => simp [intOf]; omega
          · go_wp2
            go_ret
            have hw : wordB s = true := by
              have ha := HA.out
              rw [List.take_of_length_le (by simp; omega)] at ha
              simp only [wordB, h1, dite_true, h3, ha, Bool.and_true, decide_eq_true_eq]
              exact h2
            exact ⟨ret_bool hw.symm, rfl⟩
    · have e2 : decide (12 < (s.size : Int)) = true := by simp; omega
      go_enter Try.func150, Try.ntmps150
      go_wp2_with (go_at_call 151; refine (l02Letter_any _ _).mono ?_; rintro e w' ⟨rfl, rfl⟩)
      go_ret
      exact ⟨ret_bool (by simp [wordB, h2]), rfl⟩
  · have e1 : ((s.size : Int) == 0) = true := by rw [beq_iff_eq]; omega
    go_enter Try.func150, Try.ntmps150
    go_wp2_with (go_at_call 151; refine (l02Letter_any _ _).mono ?_; rintro e w' ⟨rfl, rfl⟩)
    go_ret
    exact ⟨ret_bool (by simp [wordB, h1]), rfl⟩

theorem isName_s (s : ByteArray) (w : World) (hs : s.size ≤ 1099511627776) : Calls Try.prog 143 #[.string s] w fun e w' => e = .returned (.bool (isNameB s)) ∧ w = w' := by
  cases h0 : (s.toList == [97, 110, 100])
  · cases h1 : (s.toList == [99, 97, 108, 108])
    · cases h2 : (s.toList == [101, 108, 115, 101])
      · cases h3 : (s.toList == [103, 108, 111, 98, 97, 108, 115])
        · cases h4 : (s.toList == [105, 102])
          · cases h5 : (s.toList == [108, 111, 99, 107])
            · cases h6 : (s.toList == [108, 111, 99, 107, 115])
              · cases h7 : (s.toList == [110, 111, 116])
                · cases h8 : (s.toList == [112, 114, 111, 99])
                  · cases h9 : (s.toList == [115, 107, 105, 112])
                    · cases h10 : (s.toList == [115, 112, 97, 119, 110])
                      · cases h11 : (s.toList == [117, 110, 108, 111, 99, 107])
                        · cases h12 : (s.toList == [119, 104, 105, 108, 101])
                          · go_enter Try.func143, Try.ntmps143
                            go_wp2_with (go_at_call 150; refine (l02Word_any _ _ hs).mono ?_; rintro e w' ⟨rfl, rfl⟩)
                            go_ret
                            exact ⟨ret_bool (by simp [isNameB, kwL, h0, h1, h2, h3, h4, h5, h6, h7, h8, h9, h10, h11, h12]), rfl⟩
                          · go_enter Try.func143, Try.ntmps143
                            go_wp2_with fail
                            go_ret
                            exact ⟨ret_bool (by simp [isNameB, kwL, h0, h1, h2, h3, h4, h5, h6, h7, h8, h9, h10, h11, h12]), rfl⟩
                        · go_enter Try.func143, Try.ntmps143
                          go_wp2_with fail
                          go_ret
                          exact ⟨ret_bool (by simp [isNameB, kwL, h0, h1, h2, h3, h4, h5, h6, h7, h8, h9, h10, h11]), rfl⟩
                      · go_enter Try.func143, Try.ntmps143
                        go_wp2_with fail
                        go_ret
                        exact ⟨ret_bool (by simp [isNameB, kwL, h0, h1, h2, h3, h4, h5, h6, h7, h8, h9, h10]), rfl⟩
                    · go_enter Try.func143, Try.ntmps143
                      go_wp2_with fail
                      go_ret
                      exact ⟨ret_bool (by simp [isNameB, kwL, h0, h1, h2, h3, h4, h5, h6, h7, h8, h9]), rfl⟩
                  · go_enter Try.func143, Try.ntmps143
                    go_wp2_with fail
                    go_ret
                    exact ⟨ret_bool (by simp [isNameB, kwL, h0, h1, h2, h3, h4, h5, h6, h7, h8]), rfl⟩
                · go_enter Try.func143, Try.ntmps143
                  go_wp2_with fail
                  go_ret
                  exact ⟨ret_bool (by simp [isNameB, kwL, h0, h1, h2, h3, h4, h5, h6, h7]), rfl⟩
              · go_enter Try.func143, Try.ntmps143
                go_wp2_with fail
                go_ret
                exact ⟨ret_bool (by simp [isNameB, kwL, h0, h1, h2, h3, h4, h5, h6]), rfl⟩
            · go_enter Try.func143, Try.ntmps143
              go_wp2_with fail
              go_ret
              exact ⟨ret_bool (by simp [isNameB, kwL, h0, h1, h2, h3, h4, h5]), rfl⟩
          · go_enter Try.func143, Try.ntmps143
            go_wp2_with fail
            go_ret
            exact ⟨ret_bool (by simp [isNameB, kwL, h0, h1, h2, h3, h4]), rfl⟩
        · go_enter Try.func143, Try.ntmps143
          go_wp2_with fail
          go_ret
          exact ⟨ret_bool (by simp [isNameB, kwL, h0, h1, h2, h3]), rfl⟩
      · go_enter Try.func143, Try.ntmps143
        go_wp2_with fail
        go_ret
        exact ⟨ret_bool (by simp [isNameB, kwL, h0, h1, h2]), rfl⟩
    · go_enter Try.func143, Try.ntmps143
      go_wp2_with fail
      go_ret
      exact ⟨ret_bool (by simp [isNameB, kwL, h0, h1]), rfl⟩
  · go_enter Try.func143, Try.ntmps143
    go_wp2_with fail
    go_ret
    exact ⟨ret_bool (by simp [isNameB, kwL, h0]), rfl⟩
theorem isName_i (s : ByteArray) (w : World) (hs : s.size ≤ 1099511627776) : Calls Try.prog 138 #[.string s] w fun e w' => e = .returned (.bool (isNameB s)) ∧ w = w' := by
  by_cases h1 : 0 < s.size
  · have e1 : decide ((s.size : Int) < 1) = false := by simp; omega
    by_cases h2 : s.size ≤ 12
    · have e2 : decide (12 < (s.size : Int)) = false := by simp; omega
      cases h3 : letterB (s[0]'h1).toNat
      · go_enter Try.func138, Try.ntmps138
        go_wp2_with (go_at_call 147; refine (isSmall_any _ _).mono ?_; rintro e w' ⟨rfl, rfl⟩)
        go_ret
        exact ⟨ret_bool (by simp [isNameB, wordB, h1, h3]), rfl⟩
      · go_enter Try.func138, Try.ntmps138
        go_wp2_with (go_at_call 147; refine (isSmall_any _ _).mono ?_; rintro e w' ⟨rfl, rfl⟩)
        go_loop [3] (fun i => ∃ k : Nat, k ≤ s.size ∧ i = .int .i64 k ∧ (s.data.toList.take k).all nameByte = true) (fun i => s.size - (intOf i).toNat)
        case atStart => exact ⟨0, by omega, rfl, rfl⟩
        case round =>
          obtain ⟨k, hk, rfl, hall⟩ := hrel
          have HA := Lib.hid hall
          clear hall
          by_cases hlt : k < s.size
          · have HT := Lib.hid (take_snoc s k hlt)
            cases hb1 : letterB (s[k]'hlt).toNat
            · cases hb2 : figureB (s[k]'hlt).toNat
              · have HB1 := Lib.hid hb1
                have HB2 := Lib.hid hb2
                go_wp2_with (first | (go_at_call 147; refine (isSmall_any _ _).mono ?_; rintro e w' ⟨rfl, rfl⟩) | (go_at_call 148; refine (isFigure_any _ _).mono ?_; rintro e w' ⟨rfl, rfl⟩))
                go_ret
                exact ⟨ret_bool (by rw [isNameB, wordB, dif_pos h1, all_false s k hlt (by simp [nameByte, HB1.out, HB2.out])]; simp), rfl⟩
              · have HB2 := Lib.hid hb2
                go_wp2_with (first | (go_at_call 147; refine (isSmall_any _ _).mono ?_; rintro e w' ⟨rfl, rfl⟩) | (go_at_call 148; refine (isFigure_any _ _).mono ?_; rintro e w' ⟨rfl, rfl⟩))
                go_round
                case rel => exact ⟨k + 1, by omega, by go_num, by rw [HT.out, List.all_append, HA.out]; simp [nameByte, HB2.out]⟩
                case measure => simp [intOf]; omega
            · have HB1 := Lib.hid hb1
              go_wp2_with (first | (go_at_call 147; refine (isSmall_any _ _).mono ?_; rintro e w' ⟨rfl, rfl⟩) | (go_at_call 148; refine (isFigure_any _ _).mono ?_; rintro e w' ⟨rfl, rfl⟩))
              go_round
              case rel => exact ⟨k + 1, by omega, by go_num, by rw [HT.out, List.all_append, HA.out]; simp [nameByte, HB1.out]⟩
              case measure => simp [intOf]; omega
          · have hw : wordB s = true := by
              have ha := HA.out
              rw [List.take_of_length_le (by simp; omega)] at ha
              simp only [wordB, h1, dite_true, h3, ha, Bool.and_true, decide_eq_true_eq]
              exact h2
            have HW := Lib.hid hw
            clear hw
            cases h10 : (s.toList == [97, 110, 100])
            · cases h11 : (s.toList == [99, 97, 108, 108])
              · cases h12 : (s.toList == [101, 108, 115, 101])
                · cases h13 : (s.toList == [103, 108, 111, 98, 97, 108, 115])
                  · cases h14 : (s.toList == [105, 102])
                    · cases h15 : (s.toList == [108, 111, 99, 107])
                      · cases h16 : (s.toList == [108, 111, 99, 107, 115])
                        · cases h17 : (s.toList == [110, 111, 116])
                          · cases h18 : (s.toList == [112, 114, 111, 99])
                            · cases h19 : (s.toList == [115, 107, 105, 112])
                              · cases h20 : (s.toList == [115, 112, 97, 119, 110])
                                · cases h21 : (s.toList == [117, 110, 108, 111, 99, 107])
                                  · cases h22 : (s.toList == [119, 104, 105, 108, 101])
                                    · go_wp2
                                      go_ret
                                      exact ⟨ret_bool (by simp [isNameB, HW.out, kwL, h10, h11, h12, h13, h14, h15, h16, h17, h18, h19, h20, h21, h22]), rfl⟩
                                    · go_wp2
                                      go_ret
                                      exact ⟨ret_bool (by simp [isNameB, kwL, h10, h11, h12, h13, h14, h15, h16, h17, h18, h19, h20, h21, h22]), rfl⟩
                                  · go_wp2
                                    go_ret
                                    exact ⟨ret_bool (by simp [isNameB, kwL, h10, h11, h12, h13, h14, h15, h16, h17, h18, h19, h20, h21]), rfl⟩
                                · go_wp2
                                  go_ret
                                  exact ⟨ret_bool (by simp [isNameB, kwL, h10, h11, h12, h13, h14, h15, h16, h17, h18, h19, h20]), rfl⟩
                              · go_wp2
                                go_ret
                                exact ⟨ret_bool (by simp [isNameB, kwL, h10, h11, h12, h13, h14, h15, h16, h17, h18, h19]), rfl⟩
                            · go_wp2
                              go_ret
                              exact ⟨ret_bool (by simp [isNameB, kwL, h10, h11, h12, h13, h14, h15, h16, h17, h18]), rfl⟩
                          · go_wp2
                            go_ret
                            exact ⟨ret_bool (by simp [isNameB, kwL, h10, h11, h12, h13, h14, h15, h16, h17]), rfl⟩
                        · go_wp2
                          go_ret
                          exact ⟨ret_bool (by simp [isNameB, kwL, h10, h11, h12, h13, h14, h15, h16]), rfl⟩
                      · go_wp2
                        go_ret
                        exact ⟨ret_bool (by simp [isNameB, kwL, h10, h11, h12, h13, h14, h15]), rfl⟩
                    · go_wp2
                      go_ret
                      exact ⟨ret_bool (by simp [isNameB, kwL, h10, h11, h12, h13, h14]), rfl⟩
                  · go_wp2
                    go_ret
                    exact ⟨ret_bool (by simp [isNameB, kwL, h10, h11, h12, h13]), rfl⟩
                · go_wp2
                  go_ret
                  exact ⟨ret_bool (by simp [isNameB, kwL, h10, h11, h12]), rfl⟩
              · go_wp2
                go_ret
                exact ⟨ret_bool (by simp [isNameB, kwL, h10, h11]), rfl⟩
            · go_wp2
              go_ret
              exact ⟨ret_bool (by simp [isNameB, kwL, h10]), rfl⟩
    · have e2 : decide (12 < (s.size : Int)) = true := by simp; omega
      go_enter Try.func138, Try.ntmps138
      go_wp2_with (go_at_call 147; refine (isSmall_any _ _).mono ?_; rintro e w' ⟨rfl, rfl⟩)
      go_ret
      exact ⟨ret_bool (by simp [isNameB, wordB, h2]), rfl⟩
  · have e1 : decide ((s.size : Int) < 1) = true := by simp; omega
    go_enter Try.func138, Try.ntmps138
    go_wp2_with (go_at_call 147; refine (isSmall_any _ _).mono ?_; rintro e w' ⟨rfl, rfl⟩)
    go_ret
    exact ⟨ret_bool (by simp [isNameB, wordB, h1]), rfl⟩

end Go.Proofs.Ytjnlmiekldflhaa
