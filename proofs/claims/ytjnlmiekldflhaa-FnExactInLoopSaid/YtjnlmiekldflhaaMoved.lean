/- Contracts of behind and effectsRight, of l13Moved and l13Table. -/
import Derived.Test.YtjnlmiekldflhaaEff
import Derived.Test.YtjnlmiekldflhaaRight
set_option linter.unusedSimpArgs false
set_option linter.unusedVariables false
namespace Go.Proofs.Ytjnlmiekldflhaa
open Go.ChangeShapes Go.WideShapes Go.ChangeAt Go.RowKit

def effB (e : Int × Int) : Bool := isSetB e.1 && isSetB e.2
/-- A table that fits n procedures. -/
def tabB (n : Nat) (es : List (Int × Int)) : Bool := decide (es.length = n) && es.all effB
def keepAt (es : List (Int × Int)) (a : Nat) : Nat := ((es[a]?).map fun e => e.1.toNat).getD 0
def genAt (es : List (Int × Int)) (a : Nat) : Nat := ((es[a]?).map fun e => e.2.toNat).getD 0
/-- What is held behind an instruction. -/
def movedV (op : Int) (arg : Nat) (es : List (Int × Int)) (held : Nat) : Nat :=
  if op = 6 then held ||| 2 ^ arg else if op = 7 then andNot held (2 ^ arg) else if op = 4 then (held &&& keepAt es arg) ||| genAt es arg else held

theorem effectsRight_any {B : Nat} (A : Option Addr) (c many : Nat) (es : List (Int × Int)) (w : World) (hk : Rd w B A (effCells es)) (hn : es.length ≤ 1048576) (hm : many ≤ 1048576) :
    Calls Try.prog 65 #[.int .i64 many, .slice A es.length c] w fun e w' => e = .returned (.bool (tabB many es)) ∧ Below w.heap.size w w' := by
  have hk0 := hk.full
  clear hk
  by_cases hl : es.length = many
  · have hne : ((es.length : Int) != many) = false := by simp [hl]
    have HL := Lib.hid hl
    clear hl
    go_enter Try.func65, Try.ntmps65
    go_wp2
    go_loopw [13] (fun i wr => ∃ k : Nat, k ≤ es.length ∧ i = .int .i64 k ∧ (es.take k).all effB = true ∧ Below w.heap.size w wr) (fun i _ => es.length - (intOf i).toNat)
    case atStart => exact ⟨0, Nat.zero_le _, rfl, by simp, Below.refl _ _⟩
    case round =>
      obtain ⟨k, hkl, rfl, hag, hbr⟩ := hrel
      have HA := Lib.hid hag
      clear hag
      by_cases hlt : k < es.length
      · obtain ⟨ad, rfl, hbl, k0, k1⟩ := (hk0.below hbr).eff hlt
        have HE := Lib.hid (show es.all effB = true → isSetB es[k].1 = true ∧ isSetB es[k].2 = true from fun h => by
          have := List.all_eq_true.1 h _ (List.getElem_mem hlt)
          simpa [effB] using this)
        have HS := Lib.hid (show isSetB es[k].1 = true → isSetB es[k].2 = true → (es.take (k + 1)).all effB = true from fun h1 h2 => by
          rw [List.take_succ_eq_append_getElem hlt, List.all_append, HA.out]
          simp [effB, h1, h2])
        have S1 := Lib.hid (fun w => isSet_any es[k].1 w)
        have S2 := Lib.hid (fun w => isSet_any es[k].2 w)
        generalize es[k].1 = a at *
        generalize es[k].2 = b at *
        generalize hsa : isSetB a = sa at *
        generalize hsb : isSetB b = sb at *
        cases sa
        · go_wp2_with (go_at_call 64; refine (S1.out _).mono ?_; rintro e w' ⟨rfl, rfl⟩)
          go_ret
          refine ⟨ret_bool ?_, below_trans' hbr (below_alloc0 _ _)⟩
          rw [tabB, Bool.and_eq_false_iff.2 (.inr (Bool.eq_false_iff.2 fun h => by have := (HE.out h).1; simp at this))]
        · cases sb
          · go_wp2_with fail
            refine (S1.out _).mono ?_
            rintro e w' ⟨rfl, rfl⟩
            go_wp2_with fail
            refine (S2.out _).mono ?_
            rintro e w' ⟨rfl, rfl⟩
            go_wp2_with fail
            go_ret
            refine ⟨ret_bool ?_, below_trans' hbr (below_alloc0 _ _)⟩
            rw [tabB, Bool.and_eq_false_iff.2 (.inr (Bool.eq_false_iff.2 fun h => by have := (HE.out h).2; simp at this))]
          · go_wp2_with fail
            refine (S1.out _).mono ?_
            rintro e w' ⟨rfl, rfl⟩
            go_wp2_with fail
            refine (S2.out _).mono ?_
            rintro e w' ⟨rfl, rfl⟩
            go_wp2_with fail
            go_roundw
            case rel => exact ⟨k + 1, by omega, by go_num, HS.out (by simp) (by simp), below_trans' hbr (below_alloc0 _ _)⟩
            case measure => simp [intOf]; omega
      · go_wp2
        go_ret
        refine ⟨ret_bool ?_, hbr⟩
        have := HA.out
        rw [List.take_of_length_le (by omega)] at this
        simp [tabB, HL.out, this]
  · have hne : ((es.length : Int) != many) = true := by simp; omega
    go_enter Try.func65, Try.ntmps65
    go_wp2
    go_ret
    exact ⟨ret_bool (by simp [tabB, hl]), Below.refl _ _⟩

theorem l13Table_any {B : Nat} (v : CV) (k : Cd) (A : Option Addr) (c : Nat) (es : List (Int × Int)) (w : World) (hk : Rd w B A (effCells es)) (hn : es.length ≤ 1048576) (hm : k.procs.length ≤ 1048576) :
    Calls Try.prog 56 #[.agg #[.slice v.gA k.globals.length v.gc, .slice v.lA k.locks.length v.lc, .slice v.pA k.procs.length v.pc, .slice v.eA k.entry.length v.ec, .slice v.iA k.ins.length v.ic], .slice A es.length c] w fun e w' => e = .returned (.bool (tabB k.procs.length es)) ∧ Below w.heap.size w w' := by
  have hk0 := hk.full
  clear hk
  have hb0 := below_alloc0 w (.cells #[.slice v.gA k.globals.length v.gc, .slice v.lA k.locks.length v.lc, .slice v.pA k.procs.length v.pc, .slice v.eA k.entry.length v.ec, .slice v.iA k.ins.length v.ic] 33)
  by_cases hl : es.length = k.procs.length
  · have hne : ((es.length : Int) != k.procs.length) = false := by simp [hl]
    have HL := Lib.hid hl
    clear hl
    go_enter Try.func56, Try.ntmps56
    go_wp2
    generalize w.alloc (.cells #[.slice v.gA k.globals.length v.gc, .slice v.lA k.locks.length v.lc, .slice v.pA k.procs.length v.pc, .slice v.eA k.entry.length v.ec, .slice v.iA k.ins.length v.ic] 33) = W at hb0 ⊢
    go_loopw [5] (fun i wr => ∃ j : Nat, j ≤ es.length ∧ i = .int .i64 j ∧ (es.take j).all effB = true ∧ Below w.heap.size w wr) (fun i _ => es.length - (intOf i).toNat)
    case atStart => exact ⟨0, Nat.zero_le _, rfl, by simp, hb0⟩
    case round =>
      obtain ⟨j, hkl, rfl, hag, hbr⟩ := hrel
      have HA := Lib.hid hag
      clear hag
      by_cases hlt : j < es.length
      · obtain ⟨ad, rfl, hbl, k0, k1⟩ := (hk0.below hbr).eff hlt
        have HE := Lib.hid (show es.all effB = true → isSetB es[j].1 = true ∧ isSetB es[j].2 = true from fun h => by
          have := List.all_eq_true.1 h _ (List.getElem_mem hlt)
          simpa [effB] using this)
        have HS := Lib.hid (show isSetB es[j].1 = true → isSetB es[j].2 = true → (es.take (j + 1)).all effB = true from fun h1 h2 => by
          rw [List.take_succ_eq_append_getElem hlt, List.all_append, HA.out]
          simp [effB, h1, h2])
        have S1 := Lib.hid (fun w => l12Ok_any es[j].1 w)
        have S2 := Lib.hid (fun w => l12Ok_any es[j].2 w)
        generalize es[j].1 = a at *
        generalize es[j].2 = b at *
        generalize hsa : isSetB a = sa at *
        generalize hsb : isSetB b = sb at *
        cases sa
        · go_wp2_with fail
          refine (S1.out _).mono ?_
          rintro e w' ⟨rfl, rfl⟩
          go_wp2_with fail
          go_ret
          refine ⟨ret_bool ?_, hbr⟩
          rw [tabB, Bool.and_eq_false_iff.2 (.inr (Bool.eq_false_iff.2 fun h => by have := (HE.out h).1; simp at this))]
        · cases sb
          · go_wp2_with fail
            refine (S1.out _).mono ?_
            rintro e w' ⟨rfl, rfl⟩
            go_wp2_with fail
            refine (S2.out _).mono ?_
            rintro e w' ⟨rfl, rfl⟩
            go_wp2_with fail
            go_ret
            refine ⟨ret_bool ?_, hbr⟩
            rw [tabB, Bool.and_eq_false_iff.2 (.inr (Bool.eq_false_iff.2 fun h => by have := (HE.out h).2; simp at this))]
          · go_wp2_with fail
            refine (S1.out _).mono ?_
            rintro e w' ⟨rfl, rfl⟩
            go_wp2_with fail
            refine (S2.out _).mono ?_
            rintro e w' ⟨rfl, rfl⟩
            go_wp2_with fail
            go_roundw
            case rel => exact ⟨j + 1, by omega, by go_num, HS.out (by simp) (by simp), hbr⟩
            case measure => simp [intOf]; omega
      · go_wp2
        go_ret
        refine ⟨ret_bool ?_, hbr⟩
        have := HA.out
        rw [List.take_of_length_le (by omega)] at this
        simp [tabB, HL.out, this]
  · have hne : ((es.length : Int) != k.procs.length) = true := by simp; omega
    go_enter Try.func56, Try.ntmps56
    go_wp2
    go_ret
    exact ⟨ret_bool (by simp [tabB, hl]), hb0⟩

theorem behind_any {B : Nat} (op arg : Int) (n : Nat) (t : Tm) (to : Int) (Ak A : Option Addr) (ck c : Nat) (es : List (Int × Int)) (held : Nat) (w : World) (hk : Rd w B A (effCells es)) (hn : es.length ≤ 1048576)
    (hes : ∀ e ∈ es, effB e = true) (hh : held < 64) (ha : arg = n) (h67 : op = 6 ∨ op = 7 → n < 6) (h4 : op = 4 → n < es.length) :
    Calls Try.prog 67 #[.agg #[.int .i64 op, .int .i64 arg, .int .i64 t.kind, .int .i64 t.num, .string t.name, .slice Ak t.kids.length ck, .int .i64 to], .slice A es.length c, .int .i64 held] w fun e w' => e = .returned (.int .i64 (movedV op n es held : Nat)) ∧ Below w.heap.size w w' := by
  subst ha
  have hcase : op = 6 ∨ op = 7 ∨ op = 4 ∨ (op ≠ 6 ∧ op ≠ 7 ∧ op ≠ 4) := by omega
  rcases hcase with rfl | rfl | rfl | ⟨h6, h7, h4'⟩
  · have hn6 := h67 (.inl rfl)
    have e := or_bit64 held n (by omega) (by omega)
    go_enter Try.func67, Try.ntmps67
    go_wp2
    go_ret
    refine ⟨ret_int ?_, below_alloc0 _ _⟩
    rw [shl_one n (by omega), ← two_pow_cast]
    simpa [movedV] using e
  · have hn6 := h67 (.inr rfl)
    have e := andNot_bit64 held n (by omega) (by omega)
    go_enter Try.func67, Try.ntmps67
    go_wp2
    go_ret
    refine ⟨ret_int ?_, below_alloc0 _ _⟩
    rw [shl_one n (by omega), ← two_pow_cast]
    simpa [movedV] using e
  · have hnl := h4 rfl
    obtain ⟨ad, rfl, hbl, k0, k1⟩ := (hk.full.below (below_alloc0 w (.cells #[.int .i64 4, .int .i64 n, .int .i64 t.kind, .int .i64 t.num, .string t.name, .slice Ak t.kids.length ck, .int .i64 to] 57))).eff hnl
    have z1 : (0 : Int) ≤ (n : Int) := by omega
    have z2 : (n : Int) < (es.length : Int) := by omega
    have hE := hes _ (List.getElem_mem hnl)
    simp only [effB, Bool.and_eq_true] at hE
    obtain ⟨a, ea, ha⟩ := isSetB_nat hE.1
    obtain ⟨b, eb, hb⟩ := isSetB_nat hE.2
    rw [ea] at k0
    rw [eb] at k1
    have HM := Lib.hid (show movedV 4 n es held = (held &&& a) ||| b from by simp [movedV, keepAt, genAt, hnl, ea, eb])
    have e1 := i64_and_nat held a (by omega) (by omega)
    have hle : held &&& a ≤ held := Nat.and_le_left
    have e2 := i64_or_nat (held &&& a) b (by omega) (by omega)
    clear ea eb hE
    go_enter Try.func67, Try.ntmps67
    go_wp2
    go_quiet (fail)
    go_wp2
    go_ret
    refine ⟨ret_int ?_, below_drewN (below_alloc0 _ _) _⟩
    rw [HM.out]
  · have e6 : (op == 6) = false := by simpa using h6
    have e7 : (op == 7) = false := by simpa using h7
    have e4 : (op == 4) = false := by simpa using h4'
    have HM := Lib.hid (show movedV op n es held = held from by simp [movedV, h6, h7, h4'])
    clear h6 h7 h4' h67 h4
    go_enter Try.func67, Try.ntmps67
    go_wp2
    go_ret
    exact ⟨ret_int (by rw [HM.out]), below_alloc0 _ _⟩

theorem l13Moved_any {B : Nat} (op arg : Int) (n : Nat) (t : Tm) (to : Int) (Ak A : Option Addr) (ck c : Nat) (es : List (Int × Int)) (held : Nat) (w : World) (hk : Rd w B A (effCells es)) (hn : es.length ≤ 1048576)
    (hes : ∀ e ∈ es, effB e = true) (hh : held < 64) (ha : arg = n) (h67 : op = 6 ∨ op = 7 → n < 6) (h4 : op = 4 → n < es.length) :
    Calls Try.prog 58 #[.agg #[.int .i64 op, .int .i64 arg, .int .i64 t.kind, .int .i64 t.num, .string t.name, .slice Ak t.kids.length ck, .int .i64 to], .slice A es.length c, .int .i64 held] w fun e w' => e = .returned (.int .i64 (movedV op n es held : Nat)) ∧ Below w.heap.size w w' := by
  subst ha
  have hcase : op = 6 ∨ op = 7 ∨ op = 4 ∨ (op ≠ 6 ∧ op ≠ 7 ∧ op ≠ 4) := by omega
  rcases hcase with rfl | rfl | rfl | ⟨h6, h7, h4'⟩
  · have hn6 := h67 (.inl rfl)
    have e := i64_or_nat held (2 ^ n) (by omega) (two_pow_lt n (by omega))
    go_enter Try.func58, Try.ntmps58
    go_wp2_with fail
    refine (l12Bit_any n _ (by omega)).mono ?_
    rintro r w' ⟨rfl, rfl⟩
    go_wp2_with fail
    go_ret
    refine ⟨ret_int ?_, below_alloc0 _ _⟩
    simpa [movedV] using e
  · have hn6 := h67 (.inr rfl)
    have h2 : 2 ^ n < 64 := (Nat.pow_lt_pow_right (by omega) hn6 : 2 ^ n < 2 ^ 6)
    have HM := Lib.hid (show withoutV (held : Int) ((2 ^ n : Nat) : Int) = (movedV 7 n es held : Nat) from by
      simp only [withoutV, isSetB_of_nat hh, isSetB_of_nat h2, Bool.and_self, if_true, Int.toNat_natCast]
      rfl)
    go_enter Try.func58, Try.ntmps58
    go_wp2_with fail
    refine (l12Bit_any n _ (by omega)).mono ?_
    rintro r w' ⟨rfl, rfl⟩
    go_wp2_with fail
    refine (without_s _ _ _).mono ?_
    rintro r w' ⟨rfl, rfl⟩
    go_wp2_with fail
    go_ret
    exact ⟨ret_int HM.out, below_alloc0 _ _⟩
  · have hnl := h4 rfl
    obtain ⟨ad, rfl, hbl, k0, k1⟩ := (hk.full.below (below_alloc0 w (.cells #[.int .i64 4, .int .i64 n, .int .i64 t.kind, .int .i64 t.num, .string t.name, .slice Ak t.kids.length ck, .int .i64 to] 57))).eff hnl
    have z1 : (0 : Int) ≤ (n : Int) := by omega
    have z2 : (n : Int) < (es.length : Int) := by omega
    have hE := hes _ (List.getElem_mem hnl)
    simp only [effB, Bool.and_eq_true] at hE
    obtain ⟨a, ea, ha⟩ := isSetB_nat hE.1
    obtain ⟨b, eb, hb⟩ := isSetB_nat hE.2
    rw [ea] at k0
    rw [eb] at k1
    have HM := Lib.hid (show movedV 4 n es held = (held &&& a) ||| b from by simp [movedV, keepAt, genAt, hnl, ea, eb])
    have e1 := i64_and_nat held a (by omega) (by omega)
    have hle : held &&& a ≤ held := Nat.and_le_left
    have e2 := i64_or_nat (held &&& a) b (by omega) (by omega)
    clear ea eb hE
    go_enter Try.func58, Try.ntmps58
    go_wp2
    go_quiet (fail)
    go_wp2
    go_ret
    refine ⟨ret_int ?_, below_drewN (below_alloc0 _ _) _⟩
    rw [HM.out]
  · have e6 : (op == 6) = false := by simpa using h6
    have e7 : (op == 7) = false := by simpa using h7
    have e4 : (op == 4) = false := by simpa using h4'
    have HM := Lib.hid (show movedV op n es held = held from by simp [movedV, h6, h7, h4'])
    clear h6 h7 h4' h67 h4
    go_enter Try.func58, Try.ntmps58
    go_wp2
    go_ret
    exact ⟨ret_int (by rw [HM.out]), below_alloc0 _ _⟩

/-- What Moved answers. -/
def movedA (k : Cd) (es : List (Int × Int)) (at_ held : Int) : Int :=
  if 0 ≤ at_ ∧ at_ < k.ins.length ∧ isSetB held = true ∧ tabB k.procs.length es = true ∧ codeOkI k = true then
    match k.ins[at_.toNat]? with
    | some x => (movedV x.op x.arg.toNat es held.toNat : Nat)
    | none => 0
  else 0

theorem l09At_any {B L : Nat} (v : CV) (k : Cd) (at_ : Int) (w : World) (hk : CodeAt w B v k) (hcb : CdB L k) (hL : L ≤ 1099511627776) :
    Calls Try.prog 55 #[.agg #[.slice v.gA k.globals.length v.gc, .slice v.lA k.locks.length v.lc, .slice v.pA k.procs.length v.pc, .slice v.eA k.entry.length v.ec, .slice v.iA k.ins.length v.ic], .int .i64 at_] w fun e w' => e = .returned (.bool (codeOkI k && (decide (0 ≤ at_) && decide (at_ < k.ins.length)))) ∧ Below w.heap.size w w' := by
  have hl := hcb.ins
  have hcs := codeOk_s v k (w.alloc (.cells #[.slice v.gA k.globals.length v.gc, .slice v.lA k.locks.length v.lc, .slice v.pA k.procs.length v.pc, .slice v.eA k.entry.length v.ec, .slice v.iA k.ins.length v.ic] 33)) (hk.full.below (below_alloc0 _ _)) hcb hL
  rw [← codeOk_eq] at hcs
  have HC := Lib.hid hcs
  have hbx := codeBox w v k
  clear hcs hcb
  generalize codeOkI k = ok at *
  go_enter Try.func55, Try.ntmps55
  go_wp2_with fail
  generalize w.alloc (.cells #[.slice v.gA k.globals.length v.gc, .slice v.lA k.locks.length v.lc, .slice v.pA k.procs.length v.pc, .slice v.eA k.entry.length v.ec, .slice v.iA k.ins.length v.ic] 33) = W at hbx HC ⊢
  refine HC.out.mono ?_
  rintro r w1 ⟨rfl, hb1⟩
  obtain ⟨hbw, hsz, c0, c1, c2, c3, c4⟩ := hbx.to hb1
  cases ok
  · go_wp2_with fail
    go_ret
    exact ⟨rfl, hbw⟩
  · go_wp2_with fail
    refine (l01In_any _ _ _ _).mono ?_
    rintro r w2 ⟨rfl, rfl⟩
    go_wp2_with fail
    go_ret
    refine ⟨ret_bool ?_, hbw⟩
    rw [Bool.eq_iff_iff]
    simp
    omega
end Go.Proofs.Ytjnlmiekldflhaa
