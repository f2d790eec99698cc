/- Effects in memory, and the law helpers over lists of them. -/
import Derived.Test.YtkgoajnnkimkaaaGreatB3
import Derived.Test.YtkgoajnnkimkaaaGreatA9
import Derived.Test.YtkgoajnnkimkaaaGreatB4
import Derived.Carry
import Derived.ChangeSame
import Derived.ChangeSlices
import Derived.Deep.Strs
import Derived.Lib.SmallJoins
set_option linter.unusedSimpArgs false
set_option linter.unusedVariables false
namespace Go.Proofs.YtkgoajnnkimkaaaGreat
open Go.ChangeShapes Go.WideShapes Go.ChangeAt Go.RowKit

/-- The cells of a list of effects: Keep, then Gen, of each. -/
def effCells : List (Int × Int) → List Value
  | [] => []
  | e :: r => iv e.1 :: iv e.2 :: effCells r
theorem effCells_keep : ∀ (es : List (Int × Int)) (i : Nat) (h : i < es.length), (effCells es)[i * 2]? = some (iv es[i].1)
  | e :: r, 0, _ => rfl
  | e :: r, i + 1, h => by
    have := effCells_keep r i (by simpa using h)
    rw [Nat.add_mul]
    simpa [effCells] using this
theorem effCells_gen : ∀ (es : List (Int × Int)) (i : Nat) (h : i < es.length), (effCells es)[i * 2 + 1]? = some (iv es[i].2)
  | e :: r, 0, _ => rfl
  | e :: r, i + 1, h => by
    have := effCells_gen r i (by simpa using h)
    have e : (i + 1) * 2 + 1 = (i * 2 + 1) + 1 + 1 := by omega
    rw [e]
    simpa [effCells] using this
theorem Rd.eff {w : World} {B : Nat} {A : Option Addr} {es : List (Int × Int)} (h : Rd w B A (effCells es)) {i : Nat} (hi : i < es.length) : ∃ ad, A = some ad ∧ (ad.add (i * 2)).block < B ∧
    w.cell? (ad.add (i * 2)) = some (.int .i64 es[i].1) ∧ w.cell? ⟨(ad.add (i * 2)).block, (ad.add (i * 2)).off + 1, none⟩ = some (.int .i64 es[i].2) := by
  obtain ⟨ad, rfl, hb, c0⟩ := h _ _ (effCells_keep es i hi)
  obtain ⟨ad', e', _, c1⟩ := h _ _ (effCells_gen es i hi)
  cases e'
  rw [add_pos_eq _ _ 1 (by omega)] at c1
  exact ⟨ad, rfl, by rw [block_of_add]; exact hb, c0, c1⟩

theorem info_eff : (Tryz.prog.info? 39).map (fun i => (i.zero, i.size, i.bytes)) = some (some (.agg #[.int .i64 0, .int .i64 0]), 2, 16) := by kernel_rfl

end Go.Proofs.YtkgoajnnkimkaaaGreat
/- What a law is handed as a list of effects, read as data. -/
namespace Go.Proofs.YtkgoajnnkimkaaaGreat
open Go.ChangeShapes Go.WideShapes Go.ChangeAt Go.RowKit

end Go.Proofs.YtkgoajnnkimkaaaGreat
/- Contracts of behind and effectsRight, of l13Moved and l13Table. -/
namespace Go.Proofs.YtkgoajnnkimkaaaGreat
open Go.ChangeShapes Go.WideShapes Go.ChangeAt Go.RowKit

def effB (e : Int × Int) : Bool := isSetB e.1 && isSetB e.2
/-- A table that fits n procedures. -/
def tabB (n : Nat) (es : List (Int × Int)) : Bool := decide (es.length = n) && es.all effB
def keepAt (es : List (Int × Int)) (a : Nat) : Nat := ((es[a]?).map fun e => e.1.toNat).getD 0
def genAt (es : List (Int × Int)) (a : Nat) : Nat := ((es[a]?).map fun e => e.2.toNat).getD 0
/-- What is held behind an instruction. -/
def movedV (op : Int) (arg : Nat) (es : List (Int × Int)) (held : Nat) : Nat :=
  if op = 6 then held ||| 2 ^ arg else if op = 7 then andNot held (2 ^ arg) else if op = 4 then (held &&& keepAt es arg) ||| genAt es arg else held

theorem effectsRight_any {B : Nat} (A : Option Addr) (c many : Nat) (es : List (Int × Int)) (w : World) (hk : Rd w B A (effCells es)) (hn : es.length ≤ 1048576) (hm : many ≤ 1048576) :
    Calls Tryz.prog 90 #[.int .i64 many, .slice A es.length c] w fun e w' => e = .returned (.bool (tabB many es)) ∧ Below w.heap.size w w' := by
  have hk0 := hk.full
  clear hk
  by_cases hl : es.length = many
  · have hne : ((es.length : Int) != many) = false := by simp [hl]
    have HL := Lib.hid hl
    clear hl
    go_enter Tryz.func90, Tryz.ntmps90
    go_wp2
    go_loopw [13] (fun i wr => ∃ k : Nat, k ≤ es.length ∧ i = .int .i64 k ∧ (es.take k).all effB = true ∧ Below w.heap.size w wr) (fun i _ => es.length - (intOf i).toNat)
    case atStart => exact ⟨0, Nat.zero_le _, rfl, by simp, Below.refl _ _⟩
    case round =>
      obtain ⟨k, hkl, rfl, hag, hbr⟩ := hrel
      have HA := Lib.hid hag
      clear hag
      by_cases hlt : k < es.length
      · obtain ⟨ad, rfl, hbl, k0, k1⟩ := (hk0.below hbr).eff hlt
        have HE := Lib.hid (show es.all effB = true → isSetB es[k].1 = true ∧ isSetB es[k].2 = true from fun h => by
          have := List.all_eq_true.1 h _ (List.getElem_mem hlt)
          simpa [effB] using this)
        have HS := Lib.hid (show isSetB es[k].1 = true → isSetB es[k].2 = true → (es.take (k + 1)).all effB = true from fun h1 h2 => by
          rw [List.take_succ_eq_append_getElem hlt, List.all_append, HA.out]
          simp [effB, h1, h2])
        have S1 := Lib.hid (fun w => isSet_any es[k].1 w)
        have S2 := Lib.hid (fun w => isSet_any es[k].2 w)
        generalize es[k].1 = a at *
        generalize es[k].2 = b at *
        generalize hsa : isSetB a = sa at *
        generalize hsb : isSetB b = sb at *
        cases sa
        · go_wp2_with (go_at_call 89; refine (S1.out _).mono ?_; rintro e w' ⟨rfl, rfl⟩)
          go_ret
          refine ⟨ret_bool ?_, below_trans' hbr (below_alloc0 _ _)⟩
          rw [tabB, Bool.and_eq_false_iff.2 (.inr (Bool.eq_false_iff.2 fun h => by have := (HE.out h).1; simp at this))]
        · cases sb
          · go_wp2_with fail
            refine (S1.out _).mono ?_
            rintro e w' ⟨rfl, rfl⟩
            go_wp2_with fail
            refine (S2.out _).mono ?_
            rintro e w' ⟨rfl, rfl⟩
            go_wp2_with fail
            go_ret
            refine ⟨ret_bool ?_, below_trans' hbr (below_alloc0 _ _)⟩
            rw [tabB, Bool.and_eq_false_iff.2 (.inr (Bool.eq_false_iff.2 fun h => by have := (HE.out h).2; simp at this))]
          · go_wp2_with fail
            refine (S1.out _).mono ?_
            rintro e w' ⟨rfl, rfl⟩
            go_wp2_with fail
            refine (S2.out _).mono ?_
            rintro e w' ⟨rfl, rfl⟩
            go_wp2_with fail
            go_roundw
            case rel => exact ⟨k + 1, by omega, by go_num, HS.out (by simp) (by simp), below_trans' hbr (below_alloc0 _ _)⟩
            case measure => simp [intOf]; omega
      · go_wp2
        go_ret
        refine ⟨ret_bool ?_, hbr⟩
        have := HA.out
        rw [List.take_of_length_le (by omega)] at this
        simp [tabB, HL.out, this]
  · have hne : ((es.length : Int) != many) = true := by simp; omega
    go_enter Tryz.func90, Tryz.ntmps90
    go_wp2
    go_ret
    exact ⟨ret_bool (by simp [tabB, hl]), Below.refl _ _⟩

theorem l13Table_any {B : Nat} (v : CV) (k : Cd) (A : Option Addr) (c : Nat) (es : List (Int × Int)) (w : World) (hk : Rd w B A (effCells es)) (hn : es.length ≤ 1048576) (hm : k.procs.length ≤ 1048576) :
    Calls Tryz.prog 98 #[.agg #[.slice v.gA k.globals.length v.gc, .slice v.lA k.locks.length v.lc, .slice v.pA k.procs.length v.pc, .slice v.eA k.entry.length v.ec, .slice v.iA k.ins.length v.ic], .slice A es.length c] w fun e w' => e = .returned (.bool (tabB k.procs.length es)) ∧ Below w.heap.size w w' := by
  have hk0 := hk.full
  clear hk
  have hb0 := below_alloc0 w (.cells #[.slice v.gA k.globals.length v.gc, .slice v.lA k.locks.length v.lc, .slice v.pA k.procs.length v.pc, .slice v.eA k.entry.length v.ec, .slice v.iA k.ins.length v.ic] 28)
  by_cases hl : es.length = k.procs.length
  · have hne : ((es.length : Int) != k.procs.length) = false := by simp [hl]
    have HL := Lib.hid hl
    clear hl
    go_enter Tryz.func98, Tryz.ntmps98
    go_wp2
    generalize w.alloc (.cells #[.slice v.gA k.globals.length v.gc, .slice v.lA k.locks.length v.lc, .slice v.pA k.procs.length v.pc, .slice v.eA k.entry.length v.ec, .slice v.iA k.ins.length v.ic] 28) = W at hb0 ⊢
    go_loopw [5] (fun i wr => ∃ j : Nat, j ≤ es.length ∧ i = .int .i64 j ∧ (es.take j).all effB = true ∧ Below w.heap.size w wr) (fun i _ => es.length - (intOf i).toNat)
    case atStart => exact ⟨0, Nat.zero_le _, rfl, by simp, hb0⟩
    case round =>
      obtain ⟨j, hkl, rfl, hag, hbr⟩ := hrel
      have HA := Lib.hid hag
      clear hag
      by_cases hlt : j < es.length
      · obtain ⟨ad, rfl, hbl, k0, k1⟩ := (hk0.below hbr).eff hlt
        have HE := Lib.hid (show es.all effB = true → isSetB es[j].1 = true ∧ isSetB es[j].2 = true from fun h => by
          have := List.all_eq_true.1 h _ (List.getElem_mem hlt)
          simpa [effB] using this)
        have HS := Lib.hid (show isSetB es[j].1 = true → isSetB es[j].2 = true → (es.take (j + 1)).all effB = true from fun h1 h2 => by
          rw [List.take_succ_eq_append_getElem hlt, List.all_append, HA.out]
          simp [effB, h1, h2])
        have S1 := Lib.hid (fun w => l12Ok_any es[j].1 w)
        have S2 := Lib.hid (fun w => l12Ok_any es[j].2 w)
        generalize es[j].1 = a at *
        generalize es[j].2 = b at *
        generalize hsa : isSetB a = sa at *
        generalize hsb : isSetB b = sb at *
        cases sa
        · go_wp2_with fail
          refine (S1.out _).mono ?_
          rintro e w' ⟨rfl, rfl⟩
          go_wp2_with fail
          go_ret
          refine ⟨ret_bool ?_, hbr⟩
          rw [tabB, Bool.and_eq_false_iff.2 (.inr (Bool.eq_false_iff.2 fun h => by have := (HE.out h).1; simp at this))]
        · cases sb
          · go_wp2_with fail
            refine (S1.out _).mono ?_
            rintro e w' ⟨rfl, rfl⟩
            go_wp2_with fail
            refine (S2.out _).mono ?_
            rintro e w' ⟨rfl, rfl⟩
            go_wp2_with fail
            go_ret
            refine ⟨ret_bool ?_, hbr⟩
            rw [tabB, Bool.and_eq_false_iff.2 (.inr (Bool.eq_false_iff.2 fun h => by have := (HE.out h).2; simp at this))]
          · go_wp2_with fail
            refine (S1.out _).mono ?_
            rintro e w' ⟨rfl, rfl⟩
            go_wp2_with fail
            refine (S2.out _).mono ?_
            rintro e w' ⟨rfl, rfl⟩
            go_wp2_with fail
            go_roundw
            case rel => exact ⟨j + 1, by omega, by go_num, HS.out (by simp) (by simp), hbr⟩
            case measure => simp [intOf]; omega
      · go_wp2
        go_ret
        refine ⟨ret_bool ?_, hbr⟩
        have := HA.out
        rw [List.take_of_length_le (by omega)] at this
        simp [tabB, HL.out, this]
  · have hne : ((es.length : Int) != k.procs.length) = true := by simp; omega
    go_enter Tryz.func98, Tryz.ntmps98
    go_wp2
    go_ret
    exact ⟨ret_bool (by simp [tabB, hl]), hb0⟩

theorem behind_any {B : Nat} (op arg : Int) (n : Nat) (t : Tm) (to : Int) (Ak A : Option Addr) (ck c : Nat) (es : List (Int × Int)) (held : Nat) (w : World) (hk : Rd w B A (effCells es)) (hn : es.length ≤ 1048576)
    (hes : ∀ e ∈ es, effB e = true) (hh : held < 64) (ha : arg = n) (h67 : op = 6 ∨ op = 7 → n < 6) (h4 : op = 4 → n < es.length) :
    Calls Tryz.prog 96 #[.agg #[.int .i64 op, .int .i64 arg, .int .i64 t.kind, .int .i64 t.num, .string t.name, .slice Ak t.kids.length ck, .int .i64 to], .slice A es.length c, .int .i64 held] w fun e w' => e = .returned (.int .i64 (movedV op n es held : Nat)) ∧ Below w.heap.size w w' := by
  subst ha
  have hcase : op = 6 ∨ op = 7 ∨ op = 4 ∨ (op ≠ 6 ∧ op ≠ 7 ∧ op ≠ 4) := by omega
  rcases hcase with rfl | rfl | rfl | ⟨h6, h7, h4'⟩
  · have hn6 := h67 (.inl rfl)
    have e := or_bit64 held n (by omega) (by omega)
    go_enter Tryz.func96, Tryz.ntmps96
    go_wp2
    go_ret
    refine ⟨ret_int ?_, below_alloc0 _ _⟩
    rw [shl_one n (by omega), ← two_pow_cast]
    simpa [movedV] using e
  · have hn6 := h67 (.inr rfl)
    have e := andNot_bit64 held n (by omega) (by omega)
    go_enter Tryz.func96, Tryz.ntmps96
    go_wp2
    go_ret
    refine ⟨ret_int ?_, below_alloc0 _ _⟩
    rw [shl_one n (by omega), ← two_pow_cast]
    simpa [movedV] using e
  · have hnl := h4 rfl
    obtain ⟨ad, rfl, hbl, k0, k1⟩ := (hk.full.below (below_alloc0 w (.cells #[.int .i64 4, .int .i64 n, .int .i64 t.kind, .int .i64 t.num, .string t.name, .slice Ak t.kids.length ck, .int .i64 to] 52))).eff hnl
    have z1 : (0 : Int) ≤ (n : Int) := by omega
    have z2 : (n : Int) < (es.length : Int) := by omega
    have hE := hes _ (List.getElem_mem hnl)
    simp only [effB, Bool.and_eq_true] at hE
    obtain ⟨a, ea, ha⟩ := isSetB_nat hE.1
    obtain ⟨b, eb, hb⟩ := isSetB_nat hE.2
    rw [ea] at k0
    rw [eb] at k1
    have HM := Lib.hid (show movedV 4 n es held = (held &&& a) ||| b from by simp [movedV, keepAt, genAt, hnl, ea, eb])
    have e1 := i64_and_nat held a (by omega) (by omega)
    have hle : held &&& a ≤ held := Nat.and_le_left
    have e2 := i64_or_nat (held &&& a) b (by omega) (by omega)
    clear ea eb hE
    go_enter Tryz.func96, Tryz.ntmps96
    go_wp2
    go_quiet (fail)
    go_wp2
    go_ret
    refine ⟨ret_int ?_, below_drewN (below_alloc0 _ _) _⟩
    rw [HM.out]
  · have e6 : (op == 6) = false := by simpa using h6
    have e7 : (op == 7) = false := by simpa using h7
    have e4 : (op == 4) = false := by simpa using h4'
    have HM := Lib.hid (show movedV op n es held = held from by simp [movedV, h6, h7, h4'])
    clear h6 h7 h4' h67 h4
    go_enter Tryz.func96, Tryz.ntmps96
    go_wp2
    go_ret
    exact ⟨ret_int (by rw [HM.out]), below_alloc0 _ _⟩

theorem l13Moved_any {B : Nat} (op arg : Int) (n : Nat) (t : Tm) (to : Int) (Ak A : Option Addr) (ck c : Nat) (es : List (Int × Int)) (held : Nat) (w : World) (hk : Rd w B A (effCells es)) (hn : es.length ≤ 1048576)
    (hes : ∀ e ∈ es, effB e = true) (hh : held < 64) (ha : arg = n) (h67 : op = 6 ∨ op = 7 → n < 6) (h4 : op = 4 → n < es.length) :
    Calls Tryz.prog 100 #[.agg #[.int .i64 op, .int .i64 arg, .int .i64 t.kind, .int .i64 t.num, .string t.name, .slice Ak t.kids.length ck, .int .i64 to], .slice A es.length c, .int .i64 held] w fun e w' => e = .returned (.int .i64 (movedV op n es held : Nat)) ∧ Below w.heap.size w w' := by
  subst ha
  have hcase : op = 6 ∨ op = 7 ∨ op = 4 ∨ (op ≠ 6 ∧ op ≠ 7 ∧ op ≠ 4) := by omega
  rcases hcase with rfl | rfl | rfl | ⟨h6, h7, h4'⟩
  · have hn6 := h67 (.inl rfl)
    have e := i64_or_nat held (2 ^ n) (by omega) (two_pow_lt n (by omega))
    go_enter Tryz.func100, Tryz.ntmps100
    go_wp2_with fail
    refine (l12Bit_any n _ (by omega)).mono ?_
    rintro r w' ⟨rfl, rfl⟩
    go_wp2_with fail
    go_ret
    refine ⟨ret_int ?_, below_alloc0 _ _⟩
    simpa [movedV] using e
  · have hn6 := h67 (.inr rfl)
    have h2 : 2 ^ n < 64 := (Nat.pow_lt_pow_right (by omega) hn6 : 2 ^ n < 2 ^ 6)
    have HM := Lib.hid (show withoutV (held : Int) ((2 ^ n : Nat) : Int) = (movedV 7 n es held : Nat) from by
      simp only [withoutV, isSetB_of_nat hh, isSetB_of_nat h2, Bool.and_self, if_true, Int.toNat_natCast]
      rfl)
    go_enter Tryz.func100, Tryz.ntmps100
    go_wp2_with fail
    refine (l12Bit_any n _ (by omega)).mono ?_
    rintro r w' ⟨rfl, rfl⟩
    go_wp2_with fail
    refine (without_s _ _ _).mono ?_
    rintro r w' ⟨rfl, rfl⟩
    go_wp2_with fail
    go_ret
    exact ⟨ret_int HM.out, below_alloc0 _ _⟩
  · have hnl := h4 rfl
    obtain ⟨ad, rfl, hbl, k0, k1⟩ := (hk.full.below (below_alloc0 w (.cells #[.int .i64 4, .int .i64 n, .int .i64 t.kind, .int .i64 t.num, .string t.name, .slice Ak t.kids.length ck, .int .i64 to] 52))).eff hnl
    have z1 : (0 : Int) ≤ (n : Int) := by omega
    have z2 : (n : Int) < (es.length : Int) := by omega
    have hE := hes _ (List.getElem_mem hnl)
    simp only [effB, Bool.and_eq_true] at hE
    obtain ⟨a, ea, ha⟩ := isSetB_nat hE.1
    obtain ⟨b, eb, hb⟩ := isSetB_nat hE.2
    rw [ea] at k0
    rw [eb] at k1
    have HM := Lib.hid (show movedV 4 n es held = (held &&& a) ||| b from by simp [movedV, keepAt, genAt, hnl, ea, eb])
    have e1 := i64_and_nat held a (by omega) (by omega)
    have hle : held &&& a ≤ held := Nat.and_le_left
    have e2 := i64_or_nat (held &&& a) b (by omega) (by omega)
    clear ea eb hE
    go_enter Tryz.func100, Tryz.ntmps100
    go_wp2
    go_quiet (fail)
    go_wp2
    go_ret
    refine ⟨ret_int ?_, below_drewN (below_alloc0 _ _) _⟩
    rw [HM.out]
  · have e6 : (op == 6) = false := by simpa using h6
    have e7 : (op == 7) = false := by simpa using h7
    have e4 : (op == 4) = false := by simpa using h4'
    have HM := Lib.hid (show movedV op n es held = held from by simp [movedV, h6, h7, h4'])
    clear h6 h7 h4' h67 h4
    go_enter Tryz.func100, Tryz.ntmps100
    go_wp2
    go_ret
    exact ⟨ret_int (by rw [HM.out]), below_alloc0 _ _⟩

/-- What Moved answers. -/
def movedA (k : Cd) (es : List (Int × Int)) (at_ held : Int) : Int :=
  if 0 ≤ at_ ∧ at_ < k.ins.length ∧ isSetB held = true ∧ tabB k.procs.length es = true ∧ codeOkI k = true then
    match k.ins[at_.toNat]? with
    | some x => (movedV x.op x.arg.toNat es held.toNat : Nat)
    | none => 0
  else 0

theorem l09At_any {B L : Nat} (v : CV) (k : Cd) (at_ : Int) (w : World) (hk : CodeAt w B v k) (hcb : CdB L k) (hL : L ≤ 1099511627776) :
    Calls Tryz.prog 97 #[.agg #[.slice v.gA k.globals.length v.gc, .slice v.lA k.locks.length v.lc, .slice v.pA k.procs.length v.pc, .slice v.eA k.entry.length v.ec, .slice v.iA k.ins.length v.ic], .int .i64 at_] w fun e w' => e = .returned (.bool (codeOkI k && (decide (0 ≤ at_) && decide (at_ < k.ins.length)))) ∧ Below w.heap.size w w' := by
  have hl := hcb.ins
  have hcs := codeOk_s v k (w.alloc (.cells #[.slice v.gA k.globals.length v.gc, .slice v.lA k.locks.length v.lc, .slice v.pA k.procs.length v.pc, .slice v.eA k.entry.length v.ec, .slice v.iA k.ins.length v.ic] 28)) (hk.full.below (below_alloc0 _ _)) hcb hL
  rw [← codeOk_eq] at hcs
  have HC := Lib.hid hcs
  have hbx := codeBox w v k
  clear hcs hcb
  generalize codeOkI k = ok at *
  go_enter Tryz.func97, Tryz.ntmps97
  go_wp2_with fail
  generalize w.alloc (.cells #[.slice v.gA k.globals.length v.gc, .slice v.lA k.locks.length v.lc, .slice v.pA k.procs.length v.pc, .slice v.eA k.entry.length v.ec, .slice v.iA k.ins.length v.ic] 28) = W at hbx HC ⊢
  refine HC.out.mono ?_
  rintro r w1 ⟨rfl, hb1⟩
  obtain ⟨hbw, hsz, c0, c1, c2, c3, c4⟩ := hbx.to hb1
  cases ok
  · go_wp2_with fail
    go_ret
    exact ⟨rfl, hbw⟩
  · go_wp2_with fail
    refine (l01In_any _ _ _ _).mono ?_
    rintro r w2 ⟨rfl, rfl⟩
    go_wp2_with fail
    go_ret
    refine ⟨ret_bool ?_, hbw⟩
    rw [Bool.eq_iff_iff]
    simp
    omega
end Go.Proofs.YtkgoajnnkimkaaaGreat
/- Contracts of Moved, of the program and of the reference. -/
namespace Go.Proofs.YtkgoajnnkimkaaaGreat
open Go.ChangeShapes Go.WideShapes Go.ChangeAt Go.RowKit

theorem movedA_no {k : Cd} {es : List (Int × Int)} {a h : Int} (hn : (decide (0 ≤ a) && decide (a < k.ins.length)) = false ∨ isSetB h = false ∨ tabB k.procs.length es = false ∨ codeOkI k = false) : movedA k es a h = 0 := by
  rw [movedA, if_neg]
  rintro ⟨h1, h2, h3, h4, h5⟩
  rcases hn with e | e | e | e
  · simp [h1, h2] at e
  · rw [h3] at e; simp at e
  · rw [h4] at e; simp at e
  · rw [h5] at e; simp at e
theorem movedA_yes {k : Cd} {es : List (Int × Int)} {n h : Nat} (hl : n < k.ins.length) (h1 : isSetB (h : Int) = true) (h2 : tabB k.procs.length es = true) (h3 : codeOkI k = true) : movedA k es n h = (movedV k.ins[n].op k.ins[n].arg.toNat es h : Nat) := by
  rw [movedA, if_pos ⟨by omega, by omega, h1, h2, h3⟩]
  simp [hl]
/-- What is needed of the arguments where all is right. -/
theorem moved_pre {k : Cd} {es : List (Int × Int)} {n : Nat} (hl : n < k.ins.length) (h2 : tabB k.procs.length es = true) (h3 : codeOkI k = true) :
    (∀ e ∈ es, effB e = true) ∧ k.ins[n].arg = (k.ins[n].arg.toNat : Int) ∧ (k.ins[n].op = 6 ∨ k.ins[n].op = 7 → k.ins[n].arg.toNat < 6) ∧ (k.ins[n].op = 4 → k.ins[n].arg.toNat < es.length) := by
  have hr := right_of h3
  obtain ⟨a1, a2⟩ := hr.arg n hl
  simp only [tabB, Bool.and_eq_true, decide_eq_true_eq, List.all_eq_true] at h2
  refine ⟨h2.2, by omega, ?_, ?_⟩
  · intro ho
    rw [argMost, if_neg (by omega), if_neg (by omega), if_pos ho] at a2
    have := hr.locks
    omega
  · intro ho
    rw [argMost, if_neg (by omega), if_pos (.inl ho)] at a2
    have := h2.1
    omega

set_option maxHeartbeats 2000000 in
theorem moved_i {B B' L : Nat} (v : CV) (k : Cd) (A : Option Addr) (c : Nat) (es : List (Int × Int)) (at_ held : Int) (w : World) (hk : CodeAt w B v k) (hcb : CdB L k) (hL : L ≤ 1048576) (he : Rd w B' A (effCells es)) (hn : es.length ≤ 1048576) :
    Calls Tryz.prog 20 #[.agg #[.slice v.gA k.globals.length v.gc, .slice v.lA k.locks.length v.lc, .slice v.pA k.procs.length v.pc, .slice v.eA k.entry.length v.ec, .slice v.iA k.ins.length v.ic], .slice A es.length c, .int .i64 at_, .int .i64 held] w fun e w' => e = .returned (.int .i64 (movedA k es at_ held)) ∧ Below w.heap.size w w' := by
  have hkf := hk.full
  have hef := he.full
  have hbx := codeBox w v k
  have HP := Lib.hid (fun W => isPlace_any v k at_ W)
  have HS := Lib.hid (fun W => isSet_any held W)
  have HE := Lib.hid (fun W (h : Rd W w.heap.size A (effCells es)) => effectsRight_any A c k.procs.length es W h hn (by have := hcb.procs; omega))
  have HC := Lib.hid (fun W (h : CodeAt W w.heap.size v k) => codeOk_i v k W h hcb (by omega))
  have HN := Lib.hid (fun h => movedA_no (k := k) (es := es) (a := at_) (h := held) h)
  have l1 := hcb.ins
  clear hk he
  have hx1 : ∀ b, (decide (0 ≤ at_) && decide (at_ < k.ins.length)) = b → b = true → ∃ n : Nat, at_ = n ∧ n < k.ins.length := fun b h1 h2 => by
    rw [h2] at h1
    simp only [Bool.and_eq_true, decide_eq_true_eq] at h1
    exact ⟨at_.toNat, by omega, by omega⟩
  have hx2 : ∀ b, isSetB held = b → b = true → ∃ n : Nat, held = n ∧ n < 64 := fun b h1 h2 => isSetB_nat (h1.trans h2)
  cases hpl : (decide (0 ≤ at_) && decide (at_ < k.ins.length))
  · have HZ := Lib.hid (HN.out (.inl hpl))
    rw [hpl] at HP
    clear hx1 hx2 hpl HN
    go_enter Tryz.func20, Tryz.ntmps20
    go_wp2_with fail
    generalize w.alloc (.cells #[.slice v.gA k.globals.length v.gc, .slice v.lA k.locks.length v.lc, .slice v.pA k.procs.length v.pc, .slice v.eA k.entry.length v.ec, .slice v.iA k.ins.length v.ic] 28) = W at hbx ⊢
    refine (HP.out _).mono ?_
    rintro r w1 ⟨rfl, hb1⟩
    go_wp2_with fail
    go_ret
    exact ⟨ret_int HZ.out.symm, below_trans' hbx.1 hb1⟩
  · rw [hpl] at HP
    obtain ⟨n, rfl, hnl⟩ := hx1 _ hpl rfl
    cases hst : isSetB held
    · have HZ := Lib.hid (HN.out (.inr (.inl hst)))
      rw [hst] at HS
      clear hx1 hx2 hpl HN hst
      go_enter Tryz.func20, Tryz.ntmps20
      go_wp2_with fail
      generalize w.alloc (.cells #[.slice v.gA k.globals.length v.gc, .slice v.lA k.locks.length v.lc, .slice v.pA k.procs.length v.pc, .slice v.eA k.entry.length v.ec, .slice v.iA k.ins.length v.ic] 28) = W at hbx ⊢
      refine (HP.out _).mono ?_
      rintro r w1 ⟨rfl, hb1⟩
      go_wp2_with fail
      refine (HS.out _).mono ?_
      rintro r w2 ⟨rfl, rfl⟩
      go_wp2_with fail
      go_ret
      exact ⟨ret_int HZ.out.symm, below_trans' hbx.1 hb1⟩
    · rw [hst] at HS
      obtain ⟨hd, rfl, hdl⟩ := hx2 _ hst rfl
      cases htb : tabB k.procs.length es
      · have HZ := Lib.hid (HN.out (.inr (.inr (.inl htb))))
        rw [htb] at HE
        clear hx1 hx2 hpl HN hst htb
        go_enter Tryz.func20, Tryz.ntmps20
        go_wp2_with fail
        generalize w.alloc (.cells #[.slice v.gA k.globals.length v.gc, .slice v.lA k.locks.length v.lc, .slice v.pA k.procs.length v.pc, .slice v.eA k.entry.length v.ec, .slice v.iA k.ins.length v.ic] 28) = W at hbx ⊢
        refine (HP.out _).mono ?_
        rintro r w1 ⟨rfl, hb1⟩
        go_wp2_with fail
        refine (HS.out _).mono ?_
        rintro r w2 ⟨rfl, rfl⟩
        have hbx1 := hbx.to hb1
        obtain ⟨hbw, hsz, c0, c1, c2, c3, c4⟩ := id hbx1
        go_wp2_with fail
        refine (HE.out _ (hef.below hbx1.1)).mono ?_
        rintro r w3 ⟨rfl, hb3⟩
        go_wp2_with fail
        go_ret
        exact ⟨ret_int HZ.out.symm, below_trans' hbx1.1 hb3⟩
      · rw [htb] at HE
        cases hok : codeOkI k
        · have HZ := Lib.hid (HN.out (.inr (.inr (.inr hok))))
          rw [hok] at HC
          clear hx1 hx2 hpl HN hst htb hok
          go_enter Tryz.func20, Tryz.ntmps20
          go_wp2_with fail
          generalize w.alloc (.cells #[.slice v.gA k.globals.length v.gc, .slice v.lA k.locks.length v.lc, .slice v.pA k.procs.length v.pc, .slice v.eA k.entry.length v.ec, .slice v.iA k.ins.length v.ic] 28) = W at hbx ⊢
          refine (HP.out _).mono ?_
          rintro r w1 ⟨rfl, hb1⟩
          go_wp2_with fail
          refine (HS.out _).mono ?_
          rintro r w2 ⟨rfl, rfl⟩
          have hbx1 := hbx.to hb1
          obtain ⟨hbw, hsz, c0, c1, c2, c3, c4⟩ := id hbx1
          go_wp2_with fail
          refine (HE.out _ (hef.below hbx1.1)).mono ?_
          clear hbw hsz c0 c1 c2 c3 c4
          rintro r w3 ⟨rfl, hb3⟩
          have hbx3 := hbx1.to hb3
          obtain ⟨hbw, hsz, c0, c1, c2, c3, c4⟩ := id hbx3
          go_wp2_with fail
          refine (HC.out _ (hkf.below hbx3.1)).mono ?_
          rintro r w4 ⟨rfl, hb4⟩
          go_wp2_with fail
          go_ret
          exact ⟨ret_int HZ.out.symm, below_trans' hbx3.1 hb4⟩
        · rw [hok] at HC
          obtain ⟨m1, m2, m3, m4⟩ := moved_pre hnl htb hok
          have HM := Lib.hid (movedA_yes hnl hst htb hok)
          have HB := Lib.hid (fun W Ak ck (h : Rd W w.heap.size A (effCells es)) => behind_any k.ins[n].op k.ins[n].arg k.ins[n].arg.toNat k.ins[n].term k.ins[n].to Ak A ck c es hd W h hn m1 hdl m2 m3 m4)
          clear hx1 hx2 hpl HN hst htb hok m1 m2 m3 m4
          have z1 : (0 : Int) ≤ (n : Int) := by omega
          have z2 : (n : Int) < (k.ins.length : Int) := by omega
          go_enter Tryz.func20, Tryz.ntmps20
          go_wp2_with fail
          generalize w.alloc (.cells #[.slice v.gA k.globals.length v.gc, .slice v.lA k.locks.length v.lc, .slice v.pA k.procs.length v.pc, .slice v.eA k.entry.length v.ec, .slice v.iA k.ins.length v.ic] 28) = W at hbx ⊢
          refine (HP.out _).mono ?_
          rintro r w1 ⟨rfl, hb1⟩
          go_wp2_with fail
          refine (HS.out _).mono ?_
          rintro r w2 ⟨rfl, rfl⟩
          have hbx1 := hbx.to hb1
          obtain ⟨hbw, hsz, c0, c1, c2, c3, c4⟩ := id hbx1
          go_wp2_with fail
          refine (HE.out _ (hef.below hbx1.1)).mono ?_
          clear hbw hsz c0 c1 c2 c3 c4
          rintro r w3 ⟨rfl, hb3⟩
          have hbx3 := hbx1.to hb3
          obtain ⟨hbw, hsz, c0, c1, c2, c3, c4⟩ := id hbx3
          go_wp2_with fail
          refine (HC.out _ (hkf.below hbx3.1)).mono ?_
          clear hbw hsz c0 c1 c2 c3 c4
          rintro r w4 ⟨rfl, hb4⟩
          have hbx4 := hbx3.to hb4
          obtain ⟨hbw, hsz, c0, c1, c2, c3, c4⟩ := id hbx4
          obtain ⟨ad, A', c', eA, hbl, k0, k1, k2, k3, k4, k5, k6, _⟩ := (hkf.below hbx4.1).i.get hnl
          rw [eA] at c4
          go_wp2_with fail
          refine (HB.out _ A' c' (hef.below hbx4.1)).mono ?_
          rintro r w5 ⟨rfl, hb5⟩
          go_wp2_with fail
          go_ret
          exact ⟨ret_int HM.out.symm, below_trans' hbx4.1 hb5⟩

set_option maxHeartbeats 2000000 in
theorem moved_s {B B' L : Nat} (v : CV) (k : Cd) (A : Option Addr) (c : Nat) (es : List (Int × Int)) (at_ held : Int) (w : World) (hk : CodeAt w B v k) (hcb : CdB L k) (hL : L ≤ 1048576) (he : Rd w B' A (effCells es)) (hn : es.length ≤ 1048576) :
    Calls Tryz.prog 21 #[.agg #[.slice v.gA k.globals.length v.gc, .slice v.lA k.locks.length v.lc, .slice v.pA k.procs.length v.pc, .slice v.eA k.entry.length v.ec, .slice v.iA k.ins.length v.ic], .slice A es.length c, .int .i64 at_, .int .i64 held] w fun e w' => e = .returned (.int .i64 (movedA k es at_ held)) ∧ Below w.heap.size w w' := by
  have hkf := hk.full
  have hef := he.full
  have hbx := codeBox w v k
  have HP := Lib.hid (fun W (h : CodeAt W w.heap.size v k) => l09At_any v k at_ W h hcb (by omega))
  have HS := Lib.hid (fun W => l12Ok_any held W)
  have HE := Lib.hid (fun W (h : Rd W w.heap.size A (effCells es)) => l13Table_any v k A c es W h hn (by have := hcb.procs; omega))
  have HN := Lib.hid (fun h => movedA_no (k := k) (es := es) (a := at_) (h := held) h)
  have l1 := hcb.ins
  clear hk he
  have hx1 : ∀ b, (codeOkI k && (decide (0 ≤ at_) && decide (at_ < k.ins.length))) = b → b = true → codeOkI k = true ∧ ∃ n : Nat, at_ = n ∧ n < k.ins.length := fun b h1 h2 => by
    rw [h2] at h1
    simp only [Bool.and_eq_true, decide_eq_true_eq] at h1
    exact ⟨h1.1, at_.toNat, by omega, by omega⟩
  have hx2 : ∀ b, isSetB held = b → b = true → ∃ n : Nat, held = n ∧ n < 64 := fun b h1 h2 => isSetB_nat (h1.trans h2)
  cases hpl : (codeOkI k && (decide (0 ≤ at_) && decide (at_ < k.ins.length)))
  · have HZ := Lib.hid (HN.out (by
      rcases Bool.and_eq_false_iff.1 hpl with e | e
      · exact .inr (.inr (.inr e))
      · exact .inl e))
    rw [hpl] at HP
    clear hx1 hx2 hpl HN
    go_enter Tryz.func21, Tryz.ntmps21
    go_wp2_with fail
    generalize w.alloc (.cells #[.slice v.gA k.globals.length v.gc, .slice v.lA k.locks.length v.lc, .slice v.pA k.procs.length v.pc, .slice v.eA k.entry.length v.ec, .slice v.iA k.ins.length v.ic] 28) = W at hbx ⊢
    refine (HP.out _ (hkf.below hbx.1)).mono ?_
    rintro r w1 ⟨rfl, hb1⟩
    go_wp2_with fail
    go_ret
    exact ⟨ret_int HZ.out.symm, below_trans' hbx.1 hb1⟩
  · rw [hpl] at HP
    obtain ⟨hok, n, rfl, hnl⟩ := hx1 _ hpl rfl
    cases htb : tabB k.procs.length es
    · have HZ := Lib.hid (HN.out (.inr (.inr (.inl htb))))
      rw [htb] at HE
      clear hx1 hx2 hpl HN htb
      go_enter Tryz.func21, Tryz.ntmps21
      go_wp2_with fail
      generalize w.alloc (.cells #[.slice v.gA k.globals.length v.gc, .slice v.lA k.locks.length v.lc, .slice v.pA k.procs.length v.pc, .slice v.eA k.entry.length v.ec, .slice v.iA k.ins.length v.ic] 28) = W at hbx ⊢
      refine (HP.out _ (hkf.below hbx.1)).mono ?_
      rintro r w1 ⟨rfl, hb1⟩
      have hbx1 := hbx.to hb1
      obtain ⟨hbw, hsz, c0, c1, c2, c3, c4⟩ := id hbx1
      go_wp2_with fail
      refine (HE.out _ (hef.below hbx1.1)).mono ?_
      rintro r w3 ⟨rfl, hb3⟩
      go_wp2_with fail
      go_ret
      exact ⟨ret_int HZ.out.symm, below_trans' hbx1.1 hb3⟩
    · rw [htb] at HE
      cases hst : isSetB held
      · have HZ := Lib.hid (HN.out (.inr (.inl hst)))
        rw [hst] at HS
        clear hx1 hx2 hpl HN hst htb
        go_enter Tryz.func21, Tryz.ntmps21
        go_wp2_with fail
        generalize w.alloc (.cells #[.slice v.gA k.globals.length v.gc, .slice v.lA k.locks.length v.lc, .slice v.pA k.procs.length v.pc, .slice v.eA k.entry.length v.ec, .slice v.iA k.ins.length v.ic] 28) = W at hbx ⊢
        refine (HP.out _ (hkf.below hbx.1)).mono ?_
        rintro r w1 ⟨rfl, hb1⟩
        have hbx1 := hbx.to hb1
        obtain ⟨hbw, hsz, c0, c1, c2, c3, c4⟩ := id hbx1
        go_wp2_with fail
        refine (HE.out _ (hef.below hbx1.1)).mono ?_
        rintro r w3 ⟨rfl, hb3⟩
        go_wp2_with fail
        refine (HS.out _).mono ?_
        rintro r w2 ⟨rfl, rfl⟩
        go_wp2_with fail
        go_ret
        exact ⟨ret_int HZ.out.symm, below_trans' hbx1.1 hb3⟩
      · rw [hst] at HS
        obtain ⟨hd, rfl, hdl⟩ := hx2 _ hst rfl
        obtain ⟨m1, m2, m3, m4⟩ := moved_pre hnl htb hok
        have HM := Lib.hid (movedA_yes hnl hst htb hok)
        have HB := Lib.hid (fun W Ak ck (h : Rd W w.heap.size A (effCells es)) => l13Moved_any k.ins[n].op k.ins[n].arg k.ins[n].arg.toNat k.ins[n].term k.ins[n].to Ak A ck c es hd W h hn m1 hdl m2 m3 m4)
        clear hx1 hx2 hpl HN hst htb hok m1 m2 m3 m4
        have z1 : (0 : Int) ≤ (n : Int) := by omega
        have z2 : (n : Int) < (k.ins.length : Int) := by omega
        go_enter Tryz.func21, Tryz.ntmps21
        go_wp2_with fail
        generalize w.alloc (.cells #[.slice v.gA k.globals.length v.gc, .slice v.lA k.locks.length v.lc, .slice v.pA k.procs.length v.pc, .slice v.eA k.entry.length v.ec, .slice v.iA k.ins.length v.ic] 28) = W at hbx ⊢
        refine (HP.out _ (hkf.below hbx.1)).mono ?_
        rintro r w1 ⟨rfl, hb1⟩
        have hbx1 := hbx.to hb1
        obtain ⟨hbw, hsz, c0, c1, c2, c3, c4⟩ := id hbx1
        go_wp2_with fail
        refine (HE.out _ (hef.below hbx1.1)).mono ?_
        clear hbw hsz c0 c1 c2 c3 c4
        rintro r w3 ⟨rfl, hb3⟩
        go_wp2_with fail
        refine (HS.out _).mono ?_
        rintro r w2 ⟨rfl, rfl⟩
        have hbx4 := hbx1.to hb3
        obtain ⟨hbw, hsz, c0, c1, c2, c3, c4⟩ := id hbx4
        obtain ⟨ad, A', c', eA, hbl, k0, k1, k2, k3, k4, k5, k6, _⟩ := (hkf.below hbx4.1).i.get hnl
        rw [eA] at c4
        go_wp2_with fail
        refine (HB.out _ A' c' (hef.below hbx4.1)).mono ?_
        rintro r w5 ⟨rfl, hb5⟩
        go_wp2_with fail
        go_ret
        exact ⟨ret_int HM.out.symm, below_trans' hbx4.1 hb5⟩
end Go.Proofs.YtkgoajnnkimkaaaGreat
