/- Contracts of functions over lists of texts, of the program, of Go's library and of the reference. -/
import Derived.Test.YtjnlmiekldflhaaNames
import Derived.Laws.StructEq
set_option linter.unusedSimpArgs false
set_option linter.unusedVariables false
namespace Go.Proofs.Ytjnlmiekldflhaa
open Go.ChangeShapes Go.WideShapes Go.ChangeAt Go.RowKit

theorem str_inj {a b : ByteArray} (h : a.toList = b.toList) : a = b := by
  rw [ByteArray.toList_eq, ByteArray.toList_eq] at h
  exact ByteArray.ext (Array.toList_inj.1 h)
theorem str_beq (a b : ByteArray) : (a.toList == b.toList) = decide (a = b) := by
  rw [Bool.eq_iff_iff, beq_iff_eq, decide_eq_true_eq]
  exact ⟨str_inj, fun h => by rw [h]⟩
instance : LawfulBEq ByteArray where
  eq_of_beq := fun {a b} h => by
    rw [beq_toListBytes, beq_iff_eq] at h
    exact str_inj h
  rfl := fun {a} => by rw [beq_toListBytes, beq_iff_eq]

/-- The place of the first one that is t; -1 without one. -/
def placeOf (ss : List ByteArray) (t : ByteArray) : Int := if t ∈ ss then ((ss.idxOf t : Nat) : Int) else -1
theorem placeOf_at {ss : List ByteArray} {t : ByteArray} {k : Nat} (hk : k < ss.length) (he : ss[k] = t) (hn : t ∉ ss.take k) : placeOf ss t = k := by
  have hm : t ∈ ss := he ▸ List.getElem_mem hk
  rw [placeOf, if_pos hm]
  congr 1
  have e : ss = ss.take k ++ ss.drop k := (List.take_append_drop k ss).symm
  rw [e, List.idxOf_append, if_neg hn, List.drop_eq_getElem_cons hk, he, List.idxOf_cons_self]
  simp
  omega
theorem placeOf_none {ss : List ByteArray} {t : ByteArray} (hn : t ∉ ss) : placeOf ss t = -1 := by rw [placeOf, if_neg hn]
theorem not_mem_take_succ {ss : List ByteArray} {t : ByteArray} {k : Nat} (hk : k < ss.length) (hn : t ∉ ss.take k) (he : ss[k] ≠ t) : t ∉ ss.take (k + 1) := by
  rw [List.take_succ_eq_append_getElem hk]
  intro h
  rcases List.mem_append.1 h with h | h
  · exact hn h
  · exact he (List.mem_singleton.1 h).symm

theorem sIndex_any {B : Nat} (A : Option Addr) (c : Nat) (ss : List ByteArray) (t : ByteArray) (w : World) (h : Rd w B A (ss.map sv)) (hn : ss.length ≤ 1099511627776) :
    Calls Try.prog 139 #[.slice A ss.length c, .string t] w fun e w' => e = .returned (.int .i64 (placeOf ss t)) ∧ w = w' := by
  go_enter Try.func139, Try.ntmps139
  go_wp2
  go_loop [8] (fun i => ∃ k : Nat, k ≤ ss.length ∧ i = .int .i64 k ∧ t ∉ ss.take k) (fun i => ss.length - (intOf i).toNat)
  case atStart => exact ⟨0, by omega, rfl, by simp⟩
  case round =>
    obtain ⟨k, hk, rfl, hnot⟩ := hrel
    have HN := Lib.hid hnot
    clear hnot
    by_cases hlt : k < ss.length
    · obtain ⟨ad, rfl, _, hc⟩ := h.str hlt
      by_cases he : ss[k] = t
      · have HE := Lib.hid he
        rw [he] at hc
        clear he
        go_wp2
        go_ret
        exact ⟨ret_int (placeOf_at hlt HE.out HN.out).symm, rfl⟩
      · have he' : (t.toList == ss[k].toList) = false := by rw [str_beq, decide_eq_false]; exact fun h => he h.symm
        have HE := Lib.hid he
        clear he
        go_wp2
        go_round
        case rel => exact ⟨k + 1, by omega, by go_num, not_mem_take_succ hlt HN.out HE.out⟩
        case measure => simp [intOf]; omega
    · go_wp2
      go_ret
      have hf : t ∉ ss := by have := HN.out; rwa [List.take_of_length_le (by omega)] at this
      exact ⟨ret_int (placeOf_none hf).symm, rfl⟩

theorem sContains_any {B : Nat} (A : Option Addr) (c : Nat) (ss : List ByteArray) (t : ByteArray) (w : World) (h : Rd w B A (ss.map sv)) (hn : ss.length ≤ 1099511627776) :
    Calls Try.prog 121 #[.slice A ss.length c, .string t] w fun e w' => e = .returned (.bool (decide (t ∈ ss))) ∧ w = w' := by
  go_enter Try.func121, Try.ntmps121
  go_wp2_with (go_at_call 139; refine (sIndex_any _ _ _ _ _ h hn).mono ?_; rintro e w' ⟨rfl, rfl⟩)
  go_ret
  refine ⟨ret_bool ?_, rfl⟩
  by_cases hm : t ∈ ss
  · rw [placeOf, if_pos hm, decide_eq_true hm, decide_eq_true (by omega)]
  · rw [placeOf, if_neg hm, decide_eq_false hm]; rfl

theorem placeOf_s {B : Nat} (A : Option Addr) (c : Nat) (ss : List ByteArray) (t : ByteArray) (w : World) (h : Rd w B A (ss.map sv)) (hn : ss.length ≤ 1099511627776) :
    Calls Try.prog 129 #[.slice A ss.length c, .string t] w fun e w' => e = .returned (.int .i64 (placeOf ss t)) ∧ w = w' := by
  go_enter Try.func129, Try.ntmps129
  go_wp2
  go_loop [5] (fun i => ∃ k : Nat, k ≤ ss.length ∧ i = .int .i64 k ∧ t ∉ ss.take k) (fun i => ss.length - (intOf i).toNat)
  case atStart => exact ⟨0, by omega, rfl, by simp⟩
  case round =>
    obtain ⟨k, hk, rfl, hnot⟩ := hrel
    have HN := Lib.hid hnot
    clear hnot
    by_cases hlt : k < ss.length
    · obtain ⟨ad, rfl, _, hc⟩ := h.str hlt
      by_cases he : ss[k] = t
      · have HE := Lib.hid he
        rw [he] at hc
        clear he
        go_wp2
        go_ret
        exact ⟨ret_int (placeOf_at hlt HE.out HN.out).symm, rfl⟩
      · have he' : (ss[k].toList == t.toList) = false := by rw [str_beq, decide_eq_false]; exact fun h => he h
        have HE := Lib.hid he
        clear he
        go_wp2
        go_round
        case rel => exact ⟨k + 1, by omega, by go_num, not_mem_take_succ hlt HN.out HE.out⟩
        case measure => simp [intOf]; omega
    · go_wp2
      go_ret
      have hf : t ∉ ss := by have := HN.out; rwa [List.take_of_length_le (by omega)] at this
      exact ⟨ret_int (placeOf_none hf).symm, rfl⟩

theorem l04Has_any {B : Nat} (A : Option Addr) (c : Nat) (ss : List ByteArray) (t : ByteArray) (w : World) (h : Rd w B A (ss.map sv)) (hn : ss.length ≤ 1099511627776) :
    Calls Try.prog 144 #[.slice A ss.length c, .string t] w fun e w' => e = .returned (.bool (decide (t ∈ ss))) ∧ w = w' := by
  go_enter Try.func144, Try.ntmps144
  go_wp2
  go_loop [5] (fun i => ∃ k : Nat, k ≤ ss.length ∧ i = .int .i64 k ∧ t ∉ ss.take k) (fun i => ss.length - (intOf i).toNat)
  case atStart => exact ⟨0, by omega, rfl, by simp⟩
  case round =>
    obtain ⟨k, hk, rfl, hnot⟩ := hrel
    have HN := Lib.hid hnot
    clear hnot
    by_cases hlt : k < ss.length
    · obtain ⟨ad, rfl, _, hc⟩ := h.str hlt
      by_cases he : ss[k] = t
      · have HE := Lib.hid he
        rw [he] at hc
        clear he
        go_wp2
        go_ret
        exact ⟨ret_bool (decide_eq_true (HE.out ▸ List.getElem_mem hlt)).symm, rfl⟩
      · have he' : (ss[k].toList == t.toList) = false := by rw [str_beq, decide_eq_false]; exact fun h => he h
        have HE := Lib.hid he
        clear he
        go_wp2
        go_round
        case rel => exact ⟨k + 1, by omega, by go_num, not_mem_take_succ hlt HN.out HE.out⟩
        case measure => simp [intOf]; omega
    · go_wp2
      go_ret
      have hf : t ∉ ss := by have := HN.out; rwa [List.take_of_length_le (by omega)] at this
      exact ⟨ret_bool (decide_eq_false hf).symm, rfl⟩

/-- What areNames answers. -/
def areNamesB (ss : List ByteArray) (m : Nat) : Bool := decide (ss.length ≤ m) && ss.all isNameB

theorem areNames_any {B : Nat} (A : Option Addr) (c : Nat) (ss : List ByteArray) (m : Nat) (w : World) (h : Rd w B A (ss.map sv)) (hn : ss.length ≤ 1099511627776) (hm : m ≤ 100) (hss : ∀ s ∈ ss, s.size ≤ 1099511627776) :
    Calls Try.prog 119 #[.slice A ss.length c, .int .i64 m] w fun e w' => e = .returned (.bool (areNamesB ss m)) ∧ w = w' := by
  by_cases hl : ss.length ≤ m
  · have hd : decide (m < ss.length) = false := by simp; omega
    go_enter Try.func119, Try.ntmps119
    go_wp2
    go_loop [13] (fun i => ∃ k : Nat, k ≤ ss.length ∧ i = .int .i64 k ∧ (ss.take k).all isNameB = true) (fun i => ss.length - (intOf i).toNat)
    case atStart => exact ⟨0, by omega, rfl, rfl⟩
    case round =>
      obtain ⟨k, hk, rfl, hall⟩ := hrel
      have HA := Lib.hid hall
      clear hall
      by_cases hlt : k < ss.length
      · obtain ⟨ad, rfl, _, hc⟩ := h.str hlt
        have hz := hss _ (List.getElem_mem hlt)
        have HT := Lib.hid (List.take_succ_eq_append_getElem hlt)
        have HM := Lib.hid (List.getElem_mem hlt)
        clear hss
        cases hb : isNameB ss[k]
        · have HB := Lib.hid hb
          clear hb
          go_wp2_with (go_at_call 138; refine (isName_i _ _ hz).mono ?_; rintro e w' ⟨rfl, rfl⟩; rw [HB.out])
          go_ret
          refine ⟨ret_bool ?_, rfl⟩
          have : ss.all isNameB = false := List.all_eq_false.2 ⟨_, HM.out, by simp [HB.out]⟩
          rw [areNamesB, this]; simp
        · have HB := Lib.hid hb
          clear hb
          go_wp2_with (go_at_call 138; refine (isName_i _ _ hz).mono ?_; rintro e w' ⟨rfl, rfl⟩; rw [HB.out])
          go_round
          case rel => exact ⟨k + 1, by omega, by go_num, by rw [HT.out, List.all_append, HA.out]; simp [HB.out]⟩
          case measure => simp [intOf]; omega
      · go_wp2
        go_ret
        have ha : ss.all isNameB = true := by have := HA.out; rwa [List.take_of_length_le (by omega)] at this
        exact ⟨ret_bool (by rw [areNamesB, ha, decide_eq_true hl]; rfl), rfl⟩
  · go_enter Try.func119, Try.ntmps119
    go_wp2
    go_ret
    exact ⟨ret_bool (by rw [areNamesB, decide_eq_false hl]; rfl), rfl⟩

theorem l05Names_any {B : Nat} (A : Option Addr) (c : Nat) (ss : List ByteArray) (m : Nat) (w : World) (h : Rd w B A (ss.map sv)) (hn : ss.length ≤ 1099511627776) (hm : m ≤ 100) (hss : ∀ s ∈ ss, s.size ≤ 1099511627776) :
    Calls Try.prog 127 #[.slice A ss.length c, .int .i64 m] w fun e w' => e = .returned (.bool (areNamesB ss m)) ∧ w = w' := by
  by_cases hl : ss.length ≤ m
  · have hd : decide (m < ss.length) = false := by simp; omega
    go_enter Try.func127, Try.ntmps127
    go_wp2
    go_loop [5] (fun i => ∃ k : Nat, k ≤ ss.length ∧ i = .int .i64 k ∧ (ss.take k).all isNameB = true) (fun i => ss.length - (intOf i).toNat)
    case atStart => exact ⟨0, by omega, rfl, rfl⟩
    case round =>
      obtain ⟨k, hk, rfl, hall⟩ := hrel
      have HA := Lib.hid hall
      clear hall
      by_cases hlt : k < ss.length
      · obtain ⟨ad, rfl, _, hc⟩ := h.str hlt
        have hz := hss _ (List.getElem_mem hlt)
        have HT := Lib.hid (List.take_succ_eq_append_getElem hlt)
        have HM := Lib.hid (List.getElem_mem hlt)
        clear hss
        cases hb : isNameB ss[k]
        · have HB := Lib.hid hb
          clear hb
          go_wp2_with (go_at_call 143; refine (isName_s _ _ hz).mono ?_; rintro e w' ⟨rfl, rfl⟩; rw [HB.out])
          go_ret
          refine ⟨ret_bool ?_, rfl⟩
          have : ss.all isNameB = false := List.all_eq_false.2 ⟨_, HM.out, by simp [HB.out]⟩
          rw [areNamesB, this]; simp
        · have HB := Lib.hid hb
          clear hb
          go_wp2_with (go_at_call 143; refine (isName_s _ _ hz).mono ?_; rintro e w' ⟨rfl, rfl⟩; rw [HB.out])
          go_round
          case rel => exact ⟨k + 1, by omega, by go_num, by rw [HT.out, List.all_append, HA.out]; simp [HB.out]⟩
          case measure => simp [intOf]; omega
      · go_wp2
        go_ret
        have ha : ss.all isNameB = true := by have := HA.out; rwa [List.take_of_length_le (by omega)] at this
        exact ⟨ret_bool (by rw [areNamesB, ha, decide_eq_true hl]; rfl), rfl⟩
  · go_enter Try.func127, Try.ntmps127
    go_wp2
    go_ret
    exact ⟨ret_bool (by rw [areNamesB, decide_eq_false hl]; rfl), rfl⟩

/-- Whether two are the same. -/
def twiceB (ss : List ByteArray) : Bool := !decide ss.Nodup
theorem twice_take {ss : List ByteArray} {k : Nat} (hk : k < ss.length) (h : (ss.take k).Nodup) (hn : ss[k] ∉ ss.take k) : (ss.take (k + 1)).Nodup := by
  rw [List.take_succ_eq_append_getElem hk, List.nodup_append]
  exact ⟨h, by simp, fun a ha b hb e => by
    rw [List.mem_singleton] at hb
    subst hb; subst e
    exact hn ha⟩
theorem twice_of {ss : List ByteArray} {k : Nat} (hk : k < ss.length) (hn : ss[k] ∈ ss.take k) : ¬ ss.Nodup := by
  intro h
  have h1 : (ss.take (k + 1)).Nodup := h.sublist (List.take_sublist _ _)
  rw [List.take_succ_eq_append_getElem hk, List.nodup_append] at h1
  exact h1.2.2 _ hn _ (List.mem_singleton.2 rfl) rfl

theorem rd_take {w : World} {B : Nat} {A : Option Addr} {xs : List Value} (h : Rd w B A xs) (k : Nat) : Rd w B A (xs.take k) := by
  intro j u hu
  rw [List.getElem?_take] at hu
  by_cases hj : j < k
  · rw [if_pos hj] at hu; exact h j u hu
  · rw [if_neg hj] at hu; cases hu

theorem l07Twice_any {B : Nat} (A : Option Addr) (c : Nat) (ss : List ByteArray) (w : World) (h : Rd w B A (ss.map sv)) (hn : ss.length ≤ 1099511627776) (hcap : ss.length ≤ c) :
    Calls Try.prog 128 #[.slice A ss.length c] w fun e w' => e = .returned (.bool (twiceB ss)) ∧ Drew w w' := by
  go_enter Try.func128, Try.ntmps128
  go_wp2
  go_loopw [3] (fun i wr => ∃ k : Nat, k ≤ ss.length ∧ i = .int .i64 k ∧ (ss.take k).Nodup ∧ Drew w wr) (fun i _ => ss.length - (intOf i).toNat)
  case atStart => exact ⟨0, by omega, rfl, by simp, Drew.refl _⟩
  case round =>
    obtain ⟨k, hk, rfl, hnd, hq⟩ := hrel
    have HN := Lib.hid hnd
    have HT := Lib.hid (List.length_take_of_le hk)
    clear hnd
    by_cases hlt : k < ss.length
    · have hr := hq.rd h
      obtain ⟨ad, rfl, _, hc⟩ := hr.str hlt
      have h1 : (0 : Int) ≤ (k : Int) := by omega
      have h2 : (k : Int) ≤ (c : Int) := by omega
      have h3 : (k : Int) < (ss.length : Int) := by omega
      have hcall : ∀ (b : Bool), decide (ss[k] ∈ ss.take k) = b → ∀ (W : World) (d : Nat), Rd W B (some ad) (ss.map sv) → Calls Try.prog 144 #[.slice (some ad) k d, .string ss[k]] W fun e w' => e = .returned (.bool b) ∧ W = w' := by
        intro b hb W d hW
        have := l04Has_any (some ad) d (ss.take k) ss[k] W (by rw [List.map_take]; exact rd_take hW k) (by have := HT.out; omega)
        rwa [HT.out, hb] at this
      by_cases hm : ss[k] ∈ ss.take k
      · have HM := Lib.hid hm
        have HC := Lib.hid (hcall true (decide_eq_true hm))
        clear hm hcall
        go_wp2
        go_quiet ((go_at_call 144; exact quiet_left (HC.out _ _ hr)))
        go_wp2
        go_ret
        exact ⟨ret_bool (by rw [twiceB, decide_eq_false (twice_of hlt HM.out)]; rfl), hq.more _⟩
      · have HM := Lib.hid hm
        have HC := Lib.hid (hcall false (decide_eq_false hm))
        clear hm hcall
        go_wp2
        go_quiet ((go_at_call 144; exact quiet_left (HC.out _ _ hr)))
        go_wp2
        go_roundw
        case rel => exact ⟨k + 1, by omega, by go_num, twice_take hlt HN.out HM.out, hq.more _⟩
        case measure => simp [intOf]; omega
    · go_wp2
      go_ret
      have hf : ss.Nodup := by have := HN.out; rwa [List.take_of_length_le (by omega)] at this
      exact ⟨ret_bool (by rw [twiceB, decide_eq_true hf]; rfl), hq⟩

theorem rd_drop {w : World} {B : Nat} {ad : Addr} {xs : List Value} (h : Rd w B (some ad) xs) (k : Nat) : Rd w B (some ⟨ad.block, ad.off + (k + 1), none⟩) (xs.drop (k + 1)) := by
  intro j u hu
  rw [List.getElem?_drop] at hu
  obtain ⟨ad', e, hb, hcell⟩ := h _ u hu
  cases e
  refine ⟨_, rfl, hb, ?_⟩
  rw [← hcell, ← add_of_add]
  rfl
theorem twice_drop {ss : List ByteArray} {k : Nat} (hk : k < ss.length) : ¬ (ss.drop k).Nodup ↔ ss[k] ∈ ss.drop (k + 1) ∨ ¬ (ss.drop (k + 1)).Nodup := by
  rw [List.drop_eq_getElem_cons hk, List.nodup_cons]
  by_cases h : ss[k] ∈ ss.drop (k + 1) <;> simp [h]

theorem hasTwice_any {B : Nat} (A : Option Addr) (c : Nat) (ss : List ByteArray) (w : World) (h : Rd w B A (ss.map sv)) (hn : ss.length ≤ 1099511627776) (hcap : ss.length ≤ c) :
    Calls Try.prog 120 #[.slice A ss.length c] w fun e w' => e = .returned (.bool (twiceB ss)) ∧ w = w' := by
  go_enter Try.func120, Try.ntmps120
  go_wp2
  go_loop [7] (fun i => ∃ k : Nat, k ≤ ss.length ∧ i = .int .i64 k ∧ (ss.Nodup ↔ (ss.drop k).Nodup)) (fun i => ss.length - (intOf i).toNat)
  case atStart => exact ⟨0, by omega, rfl, by simp⟩
  case round =>
    obtain ⟨k, hk, rfl, hnd⟩ := hrel
    have HN := Lib.hid hnd
    clear hnd
    by_cases hlt : k < ss.length
    · obtain ⟨ad, rfl, _, hc⟩ := h.str hlt
      have h1 : (0 : Int) ≤ (k : Int) := by omega
      have h2 : (k : Int) + 1 ≤ (ss.length : Int) := by omega
      have h4 : (k : Int) + 1 ≤ (c : Int) := by omega
      have h3 : (k : Int) < (ss.length : Int) := by omega
      have hr := rd_drop h k
      rw [← List.map_drop] at hr
      have hcall : ∀ (b : Bool), decide (ss[k] ∈ ss.drop (k + 1)) = b → ∀ (A' : Option Addr) (d : Nat), Rd w B A' ((ss.drop (k + 1)).map sv) → Calls Try.prog 121 #[.slice A' (ss.length - (k + 1)) d, .string ss[k]] w fun e w' => e = .returned (.bool b) ∧ w = w' := by
        intro b hb A' d hW
        have := sContains_any A' d (ss.drop (k + 1)) ss[k] w hW (by simp; omega)
        rwa [List.length_drop, hb] at this
      have HTD := Lib.hid (twice_drop hlt)
      by_cases hck : c = k + 1
      · subst hck
        have hl : ss.length = k + 1 := by omega
        have hd : ss.drop (k + 1) = [] := List.drop_of_length_le (by omega)
        have hc0 := hcall false (decide_eq_false (by rw [hd]; exact List.not_mem_nil)) (some ad) 0 (by rw [hd]; exact Rd.nil)
        rw [show ss.length - (k + 1) = 0 from by omega] at hc0
        have HC := Lib.hid hc0
        have HD := Lib.hid hd
        clear hcall hr hd hl hc0
        go_wp2_with (go_at_call 121; refine HC.out.mono ?_; rintro e w' ⟨rfl, rfl⟩)
        go_round
        case rel => exact ⟨k + 1, by omega, by go_num, by
          have h5 := HTD.out
          rw [HD.out] at h5 ⊢
          rw [HN.out]
          simpa using h5⟩
        case measure => simp [intOf]; omega
      · by_cases hm : ss[k] ∈ ss.drop (k + 1)
        · have HC := Lib.hid (hcall true (decide_eq_true hm) _ (c - (k + 1)) hr)
          have HM := Lib.hid hm
          clear hcall hr hm
          go_wp2_with (go_at_call 121; refine HC.out.mono ?_; rintro e w' ⟨rfl, rfl⟩)
          go_ret
          have hf : ¬ ss.Nodup := by rw [HN.out]; exact HTD.out.2 (.inl HM.out)
          exact ⟨ret_bool (by rw [twiceB, decide_eq_false hf]; rfl), rfl⟩
        · have HC := Lib.hid (hcall false (decide_eq_false hm) _ (c - (k + 1)) hr)
          have HM := Lib.hid hm
          clear hcall hr hm
          go_wp2_with (go_at_call 121; refine HC.out.mono ?_; rintro e w' ⟨rfl, rfl⟩)
          go_round
          case rel => exact ⟨k + 1, by omega, by go_num, by
            have h5 := HTD.out
            rw [HN.out]
            have h6 := HM.out
            constructor
            · intro h7
              exact Classical.byContradiction fun h8 => h5.2 (.inr h8) h7
            · intro h7
              exact Classical.byContradiction fun h8 => (h5.1 h8).elim h6 (fun h9 => h9 h7)⟩
          case measure => simp [intOf]; omega
    · go_wp2
      go_ret
      have hf : ss.Nodup := by rw [HN.out, List.drop_of_length_le (by omega)]; simp
      exact ⟨ret_bool (by rw [twiceB, decide_eq_true hf]; rfl), rfl⟩
end Go.Proofs.Ytjnlmiekldflhaa
