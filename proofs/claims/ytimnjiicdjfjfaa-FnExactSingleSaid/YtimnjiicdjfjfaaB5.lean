/- Effects in memory, and the law helpers over lists of them. -/
import Derived.Test.YtimnjiicdjfjfaaB3
import Derived.Test.YtimnjiicdjfjfaaB4
import Derived.Test.YtimnjiicdjfjfaaB2
import Derived.Test.YtimnjiicdjfjfaaA9
set_option linter.unusedSimpArgs false
set_option linter.unusedVariables false
namespace Go.Proofs.Ytimnjiicdjfjfaa
open Go.ChangeShapes Go.WideShapes Go.ChangeAt Go.RowKit

/-- The cells of a list of effects: Keep, then Gen, of each. -/
def effCells : List (Int × Int) → List Value
  | [] => []
  | e :: r => iv e.1 :: iv e.2 :: effCells r
theorem effCells_len (es : List (Int × Int)) : (effCells es).length = es.length * 2 := by
  induction es with
  | nil => rfl
  | cons e r ih => simp [effCells, ih]; omega
theorem effCells_keep : ∀ (es : List (Int × Int)) (i : Nat) (h : i < es.length), (effCells es)[i * 2]? = some (iv es[i].1)
  | e :: r, 0, _ => rfl
  | e :: r, i + 1, h => by
    have := effCells_keep r i (by simpa using h)
    rw [Nat.add_mul]
    simpa [effCells] using this
theorem effCells_gen : ∀ (es : List (Int × Int)) (i : Nat) (h : i < es.length), (effCells es)[i * 2 + 1]? = some (iv es[i].2)
  | e :: r, 0, _ => rfl
  | e :: r, i + 1, h => by
    have := effCells_gen r i (by simpa using h)
    have e : (i + 1) * 2 + 1 = (i * 2 + 1) + 1 + 1 := by omega
    rw [e]
    simpa [effCells] using this
theorem effCells_of {ys : List Value} {es : List (Int × Int)} {cs : Nat → List Value} (hl : ys.length = es.length * 2) (h : RowsAt ys 2 cs es.length) (hc : ∀ i (hi : i < es.length), cs i = [iv es[i].1, iv es[i].2]) : ys = effCells es := by
  apply List.ext_getElem?
  intro m
  by_cases hm : m < es.length * 2
  · have hi : m / 2 < es.length := by omega
    obtain ⟨_, h2⟩ := h _ hi
    rw [hc _ hi] at h2
    rcases Nat.mod_two_eq_zero_or_one m with e | e
    · have := h2 0 _ rfl
      have em : m = m / 2 * 2 := by omega
      rw [em, effCells_keep es _ hi, ← this]
      simp
    · have := h2 1 _ rfl
      have em : m = m / 2 * 2 + 1 := by omega
      rw [em, effCells_gen es _ hi, ← this]
  · rw [List.getElem?_eq_none (by omega), List.getElem?_eq_none (by rw [effCells_len]; omega)]
theorem Rd.eff {w : World} {B : Nat} {A : Option Addr} {es : List (Int × Int)} (h : Rd w B A (effCells es)) {i : Nat} (hi : i < es.length) : ∃ ad, A = some ad ∧ (ad.add (i * 2)).block < B ∧
    w.cell? (ad.add (i * 2)) = some (.int .i64 es[i].1) ∧ w.cell? ⟨(ad.add (i * 2)).block, (ad.add (i * 2)).off + 1, none⟩ = some (.int .i64 es[i].2) := by
  obtain ⟨ad, rfl, hb, c0⟩ := h _ _ (effCells_keep es i hi)
  obtain ⟨ad', e', _, c1⟩ := h _ _ (effCells_gen es i hi)
  cases e'
  rw [add_pos_eq _ _ 1 (by omega)] at c1
  exact ⟨ad, rfl, by rw [block_of_add]; exact hb, c0, c1⟩

section
variable (w : World) {ops : Array Oper} {rest : List Oper} {o : Oper} {a : Act} {Q : Exit → Act → World → Prop}
end

end Go.Proofs.Ytimnjiicdjfjfaa
/- What a law is handed as a list of effects, read as data. -/
set_option linter.unusedSimpArgs false
set_option linter.unusedVariables false
namespace Go.Proofs.Ytimnjiicdjfjfaa
open Go.ChangeShapes Go.WideShapes Go.ChangeAt Go.RowKit

section
variable {H : Type} {enc : TypeId × Value → H} {W : World} {sp : Nat → Bool} {held : Bool}
end
end Go.Proofs.Ytimnjiicdjfjfaa
/- Contracts of behind and effectsRight, of l13Moved and l13Table. -/
set_option linter.unusedSimpArgs false
set_option linter.unusedVariables false
namespace Go.Proofs.Ytimnjiicdjfjfaa
open Go.ChangeShapes Go.WideShapes Go.ChangeAt Go.RowKit

def effB (e : Int × Int) : Bool := isSetB e.1 && isSetB e.2
/-- A table that fits n procedures. -/
def tabB (n : Nat) (es : List (Int × Int)) : Bool := decide (es.length = n) && es.all effB
def keepAt (es : List (Int × Int)) (a : Nat) : Nat := ((es[a]?).map fun e => e.1.toNat).getD 0
def genAt (es : List (Int × Int)) (a : Nat) : Nat := ((es[a]?).map fun e => e.2.toNat).getD 0
/-- What is held behind an instruction. -/
def movedV (op : Int) (arg : Nat) (es : List (Int × Int)) (held : Nat) : Nat :=
  if op = 6 then held ||| 2 ^ arg else if op = 7 then andNot held (2 ^ arg) else if op = 4 then (held &&& keepAt es arg) ||| genAt es arg else held

/-- What Moved answers. -/
def movedA (k : Cd) (es : List (Int × Int)) (at_ held : Int) : Int :=
  if 0 ≤ at_ ∧ at_ < k.ins.length ∧ isSetB held = true ∧ tabB k.procs.length es = true ∧ codeOkI k = true then
    match k.ins[at_.toNat]? with
    | some x => (movedV x.op x.arg.toNat es held.toNat : Nat)
    | none => 0
  else 0

theorem l09At_any {B L : Nat} (v : CV) (k : Cd) (at_ : Int) (w : World) (hk : CodeAt w B v k) (hcb : CdB L k) (hL : L ≤ 1099511627776) :
    Calls Try.prog 75 #[.agg #[.slice v.gA k.globals.length v.gc, .slice v.lA k.locks.length v.lc, .slice v.pA k.procs.length v.pc, .slice v.eA k.entry.length v.ec, .slice v.iA k.ins.length v.ic], .int .i64 at_] w fun e w' => e = .returned (.bool (codeOkI k && (decide (0 ≤ at_) && decide (at_ < k.ins.length)))) ∧ Below w.heap.size w w' := by
  have hl := hcb.ins
  have hcs := codeOk_s v k (w.alloc (.cells #[.slice v.gA k.globals.length v.gc, .slice v.lA k.locks.length v.lc, .slice v.pA k.procs.length v.pc, .slice v.eA k.entry.length v.ec, .slice v.iA k.ins.length v.ic] 31)) (hk.full.below (below_alloc0 _ _)) hcb hL
  rw [← codeOk_eq] at hcs
  have HC := Lib.hid hcs
  have hbx := codeBox w v k
  clear hcs hcb
  generalize codeOkI k = ok at *
  go_enter Try.func75, Try.ntmps75
  go_wp2_with fail
  generalize w.alloc (.cells #[.slice v.gA k.globals.length v.gc, .slice v.lA k.locks.length v.lc, .slice v.pA k.procs.length v.pc, .slice v.eA k.entry.length v.ec, .slice v.iA k.ins.length v.ic] 31) = W at hbx HC ⊢
  refine HC.out.mono ?_
  rintro r w1 ⟨rfl, hb1⟩
  obtain ⟨hbw, hsz, c0, c1, c2, c3, c4⟩ := hbx.to hb1
  cases ok
  · go_wp2_with fail
    go_ret
    exact ⟨rfl, hbw⟩
  · go_wp2_with fail
    refine (l01In_any _ _ _ _).mono ?_
    rintro r w2 ⟨rfl, rfl⟩
    go_wp2_with fail
    go_ret
    refine ⟨ret_bool ?_, hbw⟩
    rw [Bool.eq_iff_iff]
    simp
    omega
end Go.Proofs.Ytimnjiicdjfjfaa
/- Contracts of Moved, of the program and of the reference. -/
set_option linter.unusedSimpArgs false
set_option linter.unusedVariables false
namespace Go.Proofs.Ytimnjiicdjfjfaa
open Go.ChangeShapes Go.WideShapes Go.ChangeAt Go.RowKit

theorem movedA_no {k : Cd} {es : List (Int × Int)} {a h : Int} (hn : (decide (0 ≤ a) && decide (a < k.ins.length)) = false ∨ isSetB h = false ∨ tabB k.procs.length es = false ∨ codeOkI k = false) : movedA k es a h = 0 := by
  rw [movedA, if_neg]
  rintro ⟨h1, h2, h3, h4, h5⟩
  rcases hn with e | e | e | e
  · simp [h1, h2] at e
  · rw [h3] at e; simp at e
  · rw [h4] at e; simp at e
  · rw [h5] at e; simp at e
theorem movedA_yes {k : Cd} {es : List (Int × Int)} {n h : Nat} (hl : n < k.ins.length) (h1 : isSetB (h : Int) = true) (h2 : tabB k.procs.length es = true) (h3 : codeOkI k = true) : movedA k es n h = (movedV k.ins[n].op k.ins[n].arg.toNat es h : Nat) := by
  rw [movedA, if_pos ⟨by omega, by omega, h1, h2, h3⟩]
  simp [hl]
/-- What is needed of the arguments where all is right. -/
theorem moved_pre {k : Cd} {es : List (Int × Int)} {n : Nat} (hl : n < k.ins.length) (h2 : tabB k.procs.length es = true) (h3 : codeOkI k = true) :
    (∀ e ∈ es, effB e = true) ∧ k.ins[n].arg = (k.ins[n].arg.toNat : Int) ∧ (k.ins[n].op = 6 ∨ k.ins[n].op = 7 → k.ins[n].arg.toNat < 6) ∧ (k.ins[n].op = 4 → k.ins[n].arg.toNat < es.length) := by
  have hr := right_of h3
  obtain ⟨a1, a2⟩ := hr.arg n hl
  simp only [tabB, Bool.and_eq_true, decide_eq_true_eq, List.all_eq_true] at h2
  refine ⟨h2.2, by omega, ?_, ?_⟩
  · intro ho
    rw [argMost, if_neg (by omega), if_neg (by omega), if_pos ho] at a2
    have := hr.locks
    omega
  · intro ho
    rw [argMost, if_neg (by omega), if_pos (.inl ho)] at a2
    have := h2.1
    omega

end Go.Proofs.Ytimnjiicdjfjfaa
