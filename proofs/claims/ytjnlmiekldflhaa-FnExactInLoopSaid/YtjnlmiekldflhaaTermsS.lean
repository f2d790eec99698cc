/- Contracts of the reference's TermOk and of what it calls. -/
import Derived.Test.YtjnlmiekldflhaaTerms
import Derived.Test.YtjnlmiekldflhaaSets
set_option linter.unusedSimpArgs false
set_option linter.unusedVariables false
namespace Go.Proofs.Ytjnlmiekldflhaa
open Go.ChangeShapes Go.WideShapes Go.ChangeAt Go.RowKit

theorem l03Right_leaf {B L : Nat} (d : Nat) (t : Tm) (A : Option Addr) (c : Nat) (w : World) (hk : KidsAt w B A t.kids) (hb : TmB L t) (hL : L ≤ 1099511627776) (hd : d ≤ 6) (h : t.kind = 1 ∨ t.kind = 2) :
    Calls Try.prog 145 #[.agg #[.int .i64 t.kind, .int .i64 t.num, .string t.name, .slice A t.kids.length c], .int .i64 d] w fun e w' => e = .returned (.bool (termOk d t)) ∧ Below w.heap.size w w' := by
  obtain ⟨f1, f2, f3, f4⟩ := hb.fits
  unfold Fits at f1 f2
  have HO := Lib.hid (show termOk d t = leafOk t from by
    cases d with
    | zero => rfl
    | succ d =>
      have : nodeOk t = false := by rcases h with h | h <;> simp [nodeOk, h]
      simp [termOk, this])
  rcases h with h | h
  · have HK := Lib.hid h
    rw [h]
    clear h
    cases hn : (decide (0 ≤ t.num) && decide (t.num ≤ 1000000000))
    all_goals
      go_enter Try.func145, Try.ntmps145
      go_wp2_with (go_at_call 88; refine (l01In_any _ _ _ _).mono ?_; rintro e w' ⟨rfl, rfl⟩)
      all_goals go_ret
      all_goals refine ⟨ret_bool ?_, below_alloc0 _ _⟩
      all_goals rw [HO.out]
      all_goals (try rw [int_beq_zero])
      all_goals simp [leafOk, HK.out, *]
  · have HK := Lib.hid h
    rw [h]
    clear h
    go_enter Try.func145, Try.ntmps145
    go_wp2_with (go_at_call 143; refine (isName_s _ _ (by omega)).mono ?_; rintro e w' ⟨rfl, rfl⟩)
    all_goals go_ret
    all_goals refine ⟨ret_bool ?_, below_alloc0 _ _⟩
    all_goals rw [HO.out]
    all_goals (try rw [int_beq_zero])
    all_goals simp [leafOk, HK.out, *]

set_option maxHeartbeats 4000000 in
theorem l03Right_node (d : Nat) (ih : TermFitsSaid 145 d) {B L : Nat} (t : Tm) (A : Option Addr) (c : Nat) (w : World) (hk : KidsAt w B A t.kids) (hb : TmB L t) (hL : L ≤ 1099511627776) (hd : d + 1 ≤ 6) (h : nodeOk t = true) :
    Calls Try.prog 145 #[.agg #[.int .i64 t.kind, .int .i64 t.num, .string t.name, .slice A t.kids.length c], .int .i64 ((d : Int) + 1)] w fun e w' => e = .returned (.bool (termOk (d + 1) t)) ∧ Below w.heap.size w w' := by
  obtain ⟨h3, h9, hlen, hnum, hname⟩ := nodeOk_parts h
  have hkf := hk.full
  have HO := Lib.hid (show termOk (d + 1) t = t.kids.all (termOk d) from by
    have : leafOk t = false := leafOk_of_ne (by omega) (by omega)
    simp [termOk, h, this])
  have hdz' : (((d : Int) + 1) == 0) = false := by rw [beq_eq_false_iff_ne]; omega
  have hlen2 : t.kids.length ≤ 2 := by rw [hlen]; split <;> omega
  have HLEN := Lib.hid hlen
  have HB := Lib.hid hb
  have e1 : (t.kind == 1) = false := by rw [beq_eq_false_iff_ne]; omega
  have e2 : (t.kind == 2) = false := by rw [beq_eq_false_iff_ne]; omega
  have e3 : (decide (3 ≤ t.kind) && decide (t.kind ≤ 9)) = true := by simp; omega
  have HE3 := Lib.hid e3
  clear h h3 h9 hlen hb hk e3
  rw [hnum]
  clear hnum
  have hcase : ∃ m : Nat, t.kids.length = m ∧ (((t.kids.length : Nat) : Int) != m) = false ∧ ((t.kind == 8) = true ∧ m = 1 ∨ (t.kind == 8) = false ∧ m = 2) := by
    have hl := HLEN.out
    by_cases h8 : t.kind = 8
    · rw [if_pos h8] at hl
      exact ⟨1, hl, by simp [hl], .inl ⟨by simp [h8], rfl⟩⟩
    · rw [if_neg h8] at hl
      exact ⟨2, hl, by simp [hl], .inr ⟨by simp [h8], rfl⟩⟩
  obtain ⟨m, hm, _, hcase⟩ := hcase
  have HM0 := Lib.hid hm
  clear hm
  rcases hcase with ⟨h8, rfl⟩ | ⟨h8, rfl⟩
  all_goals
    first | (have hneq : (((t.kids.length : Nat) : Int) != 1) = false := by rw [HM0.out]; rfl) | (have hneq : (((t.kids.length : Nat) : Int) != 2) = false := by rw [HM0.out]; rfl)
    go_enter Try.func145, Try.ntmps145
    go_wp2_with (go_at_call 88; refine (l01In_any _ _ _ _).mono ?_; rintro e w' ⟨rfl, rfl⟩; rw [HE3.out])
    have b3 := box_cell w #[.int .i64 t.kind, .int .i64 0, .string t.name, .slice A t.kids.length c] 55 3 rfl
    have hb0 := below_alloc0 w (.cells #[.int .i64 t.kind, .int .i64 0, .string t.name, .slice A t.kids.length c] 55)
    have hs0 := alloc_size w (.cells #[.int .i64 t.kind, .int .i64 0, .string t.name, .slice A t.kids.length c] 55)
    generalize w.alloc (.cells #[.int .i64 t.kind, .int .i64 0, .string t.name, .slice A t.kids.length c] 55) = W at b3 hb0 hs0 ⊢
    go_loopw [6] (fun i wr => ∃ k : Nat, k ≤ t.kids.length ∧ i = .int .i64 k ∧ (t.kids.take k).all (termOk d) = true ∧ Below W.heap.size W wr) (fun i _ => t.kids.length - (intOf i).toNat)
    case atStart => exact ⟨0, by omega, rfl, rfl, Below.refl _ _⟩
    case round =>
      obtain ⟨k, hkl, rfl, hall, hbr⟩ := hrel
      have HA := Lib.hid hall
      clear hall
      have c3w := cell_below hbr b3
      have hsz := hbr.size
      have hlw : w.heap.size < wr.heap.size := by omega
      by_cases hlt : k < t.kids.length
      · have hkr := (hkf.below hb0).full.below hbr
        obtain ⟨ad, A', c', rfl, hbk, c0, c1, c2, c3, hkk⟩ := hkr.get hlt
        have hbk' : (ad.add (k * 4)).block < wr.heap.size := by omega
        have HT := Lib.hid (List.take_succ_eq_append_getElem hlt)
        have HM := Lib.hid (List.getElem_mem hlt)
        have hkk' := hkk.full
        cases hok : termOk d t.kids[k]
        · have HK := Lib.hid hok
          clear hok
          go_wp2_with fail
          refine (ih t.kids[k] A' c' _ hkk' (HB.out.kid k hlt) hL).mono ?_
          rintro e w1 ⟨rfl, hb1⟩
          rw [HK.out]
          go_wp2_with fail
          go_ret
          have hf : t.kids.all (termOk d) = false := List.all_eq_false.2 ⟨_, HM.out, by simp [HK.out]⟩
          exact ⟨ret_bool (by rw [HO.out, hf]), below_trans' (below_trans' hb0 hbr) hb1⟩
        · have HK := Lib.hid hok
          clear hok
          go_wp2_with fail
          refine (ih t.kids[k] A' c' _ hkk' (HB.out.kid k hlt) hL).mono ?_
          rintro e w1 ⟨rfl, hb1⟩
          rw [HK.out]
          go_wp2_with fail
          go_roundw
          case rel => exact ⟨k + 1, by omega, by go_num, by rw [HT.out, List.all_append, HA.out]; simp [HK.out], below_trans' hbr hb1⟩
          case measure => simp [intOf]; omega
      · go_wp2_with fail
        go_ret
        have ha := HA.out
        rw [List.take_of_length_le (by omega)] at ha
        exact ⟨ret_bool (by rw [HO.out, ha]), below_trans' hb0 hbr⟩

set_option maxHeartbeats 4000000 in
theorem l03Right_no (d : Nat) {B L : Nat} (t : Tm) (A : Option Addr) (c : Nat) (w : World) (hk : KidsAt w B A t.kids) (hb : TmB L t) (hL : L ≤ 1099511627776) (hd : d ≤ 6) (h1 : t.kind ≠ 1) (h2 : t.kind ≠ 2) (h : nodeOk t = false ∨ d = 0) :
    Calls Try.prog 145 #[.agg #[.int .i64 t.kind, .int .i64 t.num, .string t.name, .slice A t.kids.length c], .int .i64 d] w fun e w' => e = .returned (.bool false) ∧ Below w.heap.size w w' := by
  obtain ⟨f1, f2, f3, f4⟩ := hb.fits
  have e1 : (t.kind == 1) = false := by rw [beq_eq_false_iff_ne]; exact h1
  have e2 : (t.kind == 2) = false := by rw [beq_eq_false_iff_ne]; exact h2
  by_cases hr : 3 ≤ t.kind ∧ t.kind ≤ 9
  · obtain ⟨h3, h9⟩ := hr
    have hcase : t.kids.length ≠ (if t.kind = 8 then 1 else 2) ∨ t.num ≠ 0 ∨ ¬ t.name.toList = [] ∨ d = 0 := by
      rcases h with h | h
      · rcases nodeOk_false h h3 h9 with h | h | h
        · exact .inl h
        · exact .inr (.inl h)
        · exact .inr (.inr (.inl h))
      · exact .inr (.inr (.inr h))
    have HE3 := Lib.hid (show (decide (3 ≤ t.kind) && decide (t.kind ≤ 9)) = true from by simp; omega)
    clear h h1 h2 h3 h9 hk hb f1 f2
    by_cases h8 : t.kind = 8
    all_goals
      first | rw [if_pos h8] at hcase | rw [if_neg h8] at hcase
      first | (have e8 : (t.kind == 8) = true := by simp [h8]; done) | (have e8 : (t.kind == 8) = false := by simp [h8]; done)
      clear h8
      rcases hcase with h | h | h | h
      · first | (have hneq : (((t.kids.length : Nat) : Int) != 2) = true := by rw [bne_iff_ne]; omega) | (have hneq : (((t.kids.length : Nat) : Int) != 1) = true := by rw [bne_iff_ne]; omega)
        go_enter Try.func145, Try.ntmps145
        go_wp2_with (go_at_call 88; refine (l01In_any _ _ _ _).mono ?_; rintro e w' ⟨rfl, rfl⟩; rw [HE3.out])
        all_goals go_ret
        all_goals exact ⟨rfl, below_alloc0 _ _⟩
      · have hn : (t.num != 0) = true := by rw [bne_iff_ne]; exact h
        clear h
        go_enter Try.func145, Try.ntmps145
        go_wp2_with (go_at_call 88; refine (l01In_any _ _ _ _).mono ?_; rintro e w' ⟨rfl, rfl⟩; rw [HE3.out])
        all_goals go_ret
        all_goals exact ⟨rfl, below_alloc0 _ _⟩
      · go_enter Try.func145, Try.ntmps145
        go_wp2_with (go_at_call 88; refine (l01In_any _ _ _ _).mono ?_; rintro e w' ⟨rfl, rfl⟩; rw [HE3.out])
        all_goals go_ret
        all_goals exact ⟨rfl, below_alloc0 _ _⟩
      · subst h
        go_enter Try.func145, Try.ntmps145
        go_wp2_with (go_at_call 88; refine (l01In_any _ _ _ _).mono ?_; rintro e w' ⟨rfl, rfl⟩; rw [HE3.out])
        all_goals go_ret
        all_goals exact ⟨rfl, below_alloc0 _ _⟩
  · have HE3 := Lib.hid (show (decide (3 ≤ t.kind) && decide (t.kind ≤ 9)) = false from by simp; omega)
    have e8 : (t.kind == 8) = false := by rw [beq_eq_false_iff_ne]; omega
    clear hr h h1 h2
    go_enter Try.func145, Try.ntmps145
    go_wp2_with (go_at_call 88; refine (l01In_any _ _ _ _).mono ?_; rintro e w' ⟨rfl, rfl⟩; rw [HE3.out])
    all_goals go_ret
    all_goals exact ⟨rfl, below_alloc0 _ _⟩

theorem l03Right_any (d : Nat) (hd : d ≤ 6) : TermFitsSaid 145 d := by
  induction d with
  | zero =>
    intro B L t A c w hk hb hL
    by_cases h : t.kind = 1 ∨ t.kind = 2
    · exact l03Right_leaf 0 t A c w hk hb hL hd h
    · have h1 : t.kind ≠ 1 := fun e => h (.inl e)
      have h2 : t.kind ≠ 2 := fun e => h (.inr e)
      refine (l03Right_no 0 t A c w hk hb hL hd h1 h2 (.inr rfl)).mono fun e w' ⟨he, hw⟩ => ⟨?_, hw⟩
      rw [he, termOk, leafOk_of_ne h1 h2]
  | succ d ih =>
    intro B L t A c w hk hb hL
    by_cases h : t.kind = 1 ∨ t.kind = 2
    · exact l03Right_leaf (d + 1) t A c w hk hb hL hd h
    · have h1 : t.kind ≠ 1 := fun e => h (.inl e)
      have h2 : t.kind ≠ 2 := fun e => h (.inr e)
      cases hn : nodeOk t
      · refine (l03Right_no (d + 1) t A c w hk hb hL hd h1 h2 (.inl hn)).mono fun e w' ⟨he, hw⟩ => ⟨?_, hw⟩
        rw [he, termOk, leafOk_of_ne h1 h2, hn]; rfl
      · exact l03Right_node d (ih (by omega)) t A c w hk hb hL hd hn

theorem termOk_s {B L : Nat} (t : Tm) (A : Option Addr) (c : Nat) (w : World) (hk : KidsAt w B A t.kids) (hb : TmB L t) (hL : L ≤ 1099511627776) :
    Calls Try.prog 131 #[.agg #[.int .i64 t.kind, .int .i64 t.num, .string t.name, .slice A t.kids.length c]] w fun e w' => e = .returned (.bool (termOk 6 t)) ∧ Below w.heap.size w w' := by
  go_enter Try.func131, Try.ntmps131
  go_wp2_with fail
  refine (l03Right_any 6 (by omega) t A c _ (hk.full.below (below_alloc0 _ _)) hb hL).mono ?_
  rintro e w1 ⟨rfl, hb1⟩
  go_wp2_with fail
  go_ret
  exact ⟨rfl, below_trans' (below_alloc0 _ _) hb1⟩
end Go.Proofs.Ytjnlmiekldflhaa
