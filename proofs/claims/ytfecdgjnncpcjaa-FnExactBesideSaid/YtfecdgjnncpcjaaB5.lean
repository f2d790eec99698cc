/- Effects in memory, and the law helpers over lists of them. -/
import Derived.Test.YtfecdgjnncpcjaaB3
import Derived.Test.YtfecdgjnncpcjaaB4
import Derived.Test.YtfecdgjnncpcjaaB2
import Derived.Test.YtfecdgjnncpcjaaA9
set_option linter.unusedSimpArgs false
set_option linter.unusedVariables false
namespace Go.Proofs.Ytfecdgjnncpcjaa
open Go.ChangeShapes Go.WideShapes Go.ChangeAt Go.RowKit

/-- The cells of a list of effects: Keep, then Gen, of each. -/
def effCells : List (Int × Int) → List Value
  | [] => []
  | e :: r => iv e.1 :: iv e.2 :: effCells r
theorem effCells_len (es : List (Int × Int)) : (effCells es).length = es.length * 2 := by
  induction es with
  | nil => rfl
  | cons e r ih => simp [effCells, ih]; omega
theorem effCells_keep : ∀ (es : List (Int × Int)) (i : Nat) (h : i < es.length), (effCells es)[i * 2]? = some (iv es[i].1)
  | e :: r, 0, _ => rfl
  | e :: r, i + 1, h => by
    have := effCells_keep r i (by simpa using h)
    rw [Nat.add_mul]
    simpa [effCells] using this
theorem effCells_gen : ∀ (es : List (Int × Int)) (i : Nat) (h : i < es.length), (effCells es)[i * 2 + 1]? = some (iv es[i].2)
  | e :: r, 0, _ => rfl
  | e :: r, i + 1, h => by
    have := effCells_gen r i (by simpa using h)
    have e : (i + 1) * 2 + 1 = (i * 2 + 1) + 1 + 1 := by omega
    rw [e]
    simpa [effCells] using this
theorem effCells_of {ys : List Value} {es : List (Int × Int)} {cs : Nat → List Value} (hl : ys.length = es.length * 2) (h : RowsAt ys 2 cs es.length) (hc : ∀ i (hi : i < es.length), cs i = [iv es[i].1, iv es[i].2]) : ys = effCells es := by
  apply List.ext_getElem?
  intro m
  by_cases hm : m < es.length * 2
  · have hi : m / 2 < es.length := by omega
    obtain ⟨_, h2⟩ := h _ hi
    rw [hc _ hi] at h2
    rcases Nat.mod_two_eq_zero_or_one m with e | e
    · have := h2 0 _ rfl
      have em : m = m / 2 * 2 := by omega
      rw [em, effCells_keep es _ hi, ← this]
      simp
    · have := h2 1 _ rfl
      have em : m = m / 2 * 2 + 1 := by omega
      rw [em, effCells_gen es _ hi, ← this]
  · rw [List.getElem?_eq_none (by omega), List.getElem?_eq_none (by rw [effCells_len]; omega)]
theorem Rd.eff {w : World} {B : Nat} {A : Option Addr} {es : List (Int × Int)} (h : Rd w B A (effCells es)) {i : Nat} (hi : i < es.length) : ∃ ad, A = some ad ∧ (ad.add (i * 2)).block < B ∧
    w.cell? (ad.add (i * 2)) = some (.int .i64 es[i].1) ∧ w.cell? ⟨(ad.add (i * 2)).block, (ad.add (i * 2)).off + 1, none⟩ = some (.int .i64 es[i].2) := by
  obtain ⟨ad, rfl, hb, c0⟩ := h _ _ (effCells_keep es i hi)
  obtain ⟨ad', e', _, c1⟩ := h _ _ (effCells_gen es i hi)
  cases e'
  rw [add_pos_eq _ _ 1 (by omega)] at c1
  exact ⟨ad, rfl, by rw [block_of_add]; exact hb, c0, c1⟩

theorem szEffectS_any (A : Option Addr) (c n : Nat) (left : Nat) (w : World) (hn : n ≤ 9223372036854775807) (hl : left ≤ 1048576) :
    Calls Try.prog 23 #[.slice A n c, .int .i64 left] w (Szd w left fun r => r + n ≤ left) := by
  go_enter Try.func23, Try.ntmps23
  by_cases h : n ≤ left
  · go_wp2
    go_ret
    exact ⟨Below.refl _ _, .inr ⟨left - n, by go_num, by omega, by omega⟩⟩
  · go_wp2
    go_ret
    exact ⟨Below.refl _ _, .inl rfl⟩

theorem info_eff : (Try.prog.info? 78).map (fun i => (i.zero, i.size, i.bytes)) = some (some (.agg #[.int .i64 0, .int .i64 0]), 2, 16) := by kernel_rfl

theorem toEffect_any (a b : Int) (w : World) : Calls Try.prog 58 #[.agg #[.int .i64 a, .int .i64 b]] w fun e w' => e = .returned (.agg #[.int .i64 a, .int .i64 b]) ∧ Below w.heap.size w w' := by
  go_enter Try.func58, Try.ntmps58
  go_wp2_with fail
  have hB : Below w.heap.size w ((w.alloc (.cells #[.int .i64 a, .int .i64 b] 80)).alloc (.cells #[.int .i64 a, .int .i64 b] 78)) := below_trans' (below_alloc0 _ _) (below_alloc0 _ _)
  have hh : ((w.alloc (.cells #[.int .i64 a, .int .i64 b] 80)).alloc (.cells #[.int .i64 a, .int .i64 b] 78)).heap[w.heap.size + 1]? = some (.cells #[.int .i64 a, .int .i64 b] 78) := by
    have := heap_alloc_new (w.alloc (.cells #[.int .i64 a, .int .i64 b] 80)) (.cells #[.int .i64 a, .int .i64 b] 78)
    simpa using this
  have hfin := (Below.heap_alloc ((w.alloc (.cells #[.int .i64 a, .int .i64 b] 80)).alloc (.cells #[.int .i64 a, .int .i64 b] 78)) (.cells #[.int .i64 a, .int .i64 b] 78) (w.heap.size + 1) (by simp)).trans hh
  refine bodyPost_ret (results_cell_row rfl _ _ _ _ _ _ _ rfl hfin Try.underlying78 rfl (by kernel_rfl)) rfl ?_
  exact ⟨rfl, below_trans' hB (below_alloc0 _ _)⟩

section
variable (w : World) {ops : Array Oper} {rest : List Oper} {o : Oper} {a : Act} {Q : Exit → Act → World → Prop}
/-- make([]Effect, n). -/
theorem make_effs (hg : o.guard = none) (l c : Operand) (hop : o.op = Op.makeSlice 44 l c) (n : Nat) (hl : a.eval l = .int .i64 (n : Int)) (hc : a.eval c = .int .i64 (n : Int)) (hn : n ≤ 1048576)
    (hK : ∀ w' xs, w'.ownsRow w.heap.size 78 2 (.slice (some ⟨w.heap.size, 0, none⟩) n n) n xs → Below w.heap.size w w' →
      wpList Try.prog ops Q rest (a.put o.dst (.slice (some ⟨w.heap.size, 0, none⟩) n n)) w') : wpList Try.prog ops Q (o :: rest) a w := by
  obtain ⟨i0, hi, hz0, hz1, hz2⟩ := info_parts info_eff
  refine wpList_make_full w hg l c _ hop w.heap.size _ i0 _ 2 Try.underlying44 hi hz0 hz1 _ _ _ _ n hl hc rfl rfl (by rw [hz2]; omega) (by unfold maxLen; omega) (Nat.le_refl _) ?_
  intro w' h1 h2
  exact hK w' _ h1 ((Below.refl _ _).grown h2 (Nat.le_refl _) (by simp))
end

set_option maxHeartbeats 1000000 in
theorem toEffectS_any {B : Nat} (A : Option Addr) (c : Nat) (es : List (Int × Int)) (w : World) (hk : Rd w B A (effCells es)) (hn : es.length ≤ 1048576) :
    Calls Try.prog 25 #[.slice A es.length c] w (NewRow w 78 2 es.length (effCells es)) := by
  have hk0 := hk.full
  clear hk
  go_enter Try.func25, Try.ntmps25
  go_wp2_with (at_make; refine make_effs _ rfl _ _ rfl es.length rfl rfl hn ?_; intro w1 xs0 hown hb)
  go_loopw [4] (fun i wr => ∃ (k : Nat) (ys : List Value) (cs : Nat → List Value), k ≤ es.length ∧ i = .int .i64 k ∧ wr.ownsRow w.heap.size 78 2 (.slice (some ⟨w.heap.size, 0, none⟩) es.length es.length) es.length ys ∧
    RowsAt ys 2 cs k ∧ (∀ i (h : i < es.length), i < k → cs i = [iv es[i].1, iv es[i].2]) ∧ Below w.heap.size w wr ∧ w.heap.size + 1 ≤ wr.heap.size) (fun i _ => es.length - (intOf i).toNat)
  case atStart => exact ⟨0, _, fun _ => [], Nat.zero_le _, rfl, hown, RowsAt.zero _ _ _, fun i _ hi => by omega, hb, (hown.lt _ rfl).2⟩
  case round =>
    obtain ⟨k, ys, cs, hk, rfl, ho, hag, htm, hbr, hsz⟩ := hrel
    clear hown hb
    have HT := Lib.hid htm
    have HA := Lib.hid hag
    clear htm hag
    by_cases hlt : k < es.length
    · have hk' := hk0.below hbr
      obtain ⟨ad, rfl, hbl, k0, k1⟩ := hk'.eff hlt
      go_wp2_with fail
      refine (toEffect_any _ _ _).mono ?_
      rintro e w2 ⟨rfl, hb2⟩
      have ho2 := own_below ho hb2
      obtain ⟨u0, hu0⟩ := own_has ho2 (j := k * 2 + 0) (by omega)
      obtain ⟨u1, hu1⟩ := own_has ho2 (j := k * 2 + 1) (by omega)
      have hf0 := ho2.frozenAt (k * 2 + 0)
      have hf1 := ho2.frozenAt (k * 2 + 1)
      rw [Nat.add_zero] at hu0 hf0
      go_wp2_with fail
      obtain ⟨s1, s2⟩ := setL_own [.int .i64 es[k].1, .int .i64 es[k].2] w2 ys (k * 2) ho2
      have s3 := s2.size
      have s4 := hb2.size
      go_roundw
      case rel =>
        refine ⟨k + 1, _, _, by omega, by go_num, s1, HA.out.put _ rfl ho2.1 hlt, ?_, (below_trans' hbr hb2).grown s2 (Nat.le_trans hbr.size s4) (fun k hk => by cases hk; exact Nat.le_refl _), Nat.le_trans (Nat.le_trans hsz s4) s3⟩
        intro i h hi
        by_cases e : i = k
        · subst e
          rw [if_pos rfl]
          rfl
        · rw [if_neg e]
          exact HT.out i h (by omega)
      case measure => simp [intOf]; omega
    · go_wp2
      go_ret
      obtain rfl : k = es.length := by omega
      have e := effCells_of ho.1 HA.out fun i hi => HT.out i hi hi
      subst e
      exact ⟨_, _, rfl, ho, hbr⟩

theorem eqEffect_any (a b : Int) (w : World) : Calls Try.prog 63 #[.agg #[.int .i64 a, .int .i64 b], .agg #[.int .i64 a, .int .i64 b]] w (Yes w) := by
  have e1 : (a != a) = false := by simp
  have e2 : (b != b) = false := by simp
  go_enter Try.func63, Try.ntmps63
  go_wp2_with fail
  go_ret
  exact ⟨rfl, below_trans' (below_alloc0 _ _) (below_alloc0 _ _)⟩

theorem eqEffectS_any {B B' : Nat} (A A' : Option Addr) (c d : Nat) (es : List (Int × Int)) (w : World) (hk : Rd w B A (effCells es)) (hj : Rd w B' A' (effCells es)) (hn : es.length ≤ 1048576) :
    Calls Try.prog 27 #[.slice A es.length c, .slice A' es.length d] w (Yes w) := by
  have hk0 := hk.full
  have hj0 := hj.full
  clear hk hj
  have hne : ((es.length : Int) != es.length) = false := by simp
  go_enter Try.func27, Try.ntmps27
  go_wp2
  go_loopw [5] (fun i wr => ∃ k : Nat, k ≤ es.length ∧ i = .int .i64 k ∧ Below w.heap.size w wr) (fun i _ => es.length - (intOf i).toNat)
  case atStart => exact ⟨0, Nat.zero_le _, rfl, Below.refl _ _⟩
  case round =>
    obtain ⟨k, hk, rfl, hbr⟩ := hrel
    by_cases hlt : k < es.length
    · have hk' := hk0.below hbr
      have hj' := hj0.below hbr
      obtain ⟨ad, rfl, hbl, k0, k1⟩ := hk'.eff hlt
      obtain ⟨bd, rfl, hbl2, l0, l1⟩ := hj'.eff hlt
      have z1 : (0 : Int) ≤ (k : Int) := by omega
      have z2 : (k : Int) < (es.length : Int) := by omega
      go_wp2_with fail
      go_region_held3 (fun w' => Below wr.heap.size wr w' ∧ w'.cell? (ad.add (k * 2)) = some (.int .i64 es[k].1) ∧ w'.cell? ⟨(ad.add (k * 2)).block, (ad.add (k * 2)).off + 1, none⟩ = some (.int .i64 es[k].2) ∧
          w'.cell? (bd.add (k * 2)) = some (.int .i64 es[k].1) ∧ w'.cell? ⟨(bd.add (k * 2)).block, (bd.add (k * 2)).off + 1, none⟩ = some (.int .i64 es[k].2))
        (first | exact ⟨(Below.refl _ _).drew, k0, k1, l0, l1⟩ | assumption | (go_split_ands; refine ⟨below_trans' (by assumption) hb1, ?_, ?_, ?_, ?_⟩ <;> exact cell_below hb1 (by assumption)))
        (first | (go_at_call 63; refine (eqEffect_any _ _ _).mono ?_; rintro e w1 ⟨rfl, hb1⟩))
      rename_i W1 _ hS
      have hbS := hS.1
      clear hS k0 k1 l0 l1
      go_wp2_with fail
      go_roundw
      case rel => exact ⟨k + 1, by omega, by go_num, below_trans' hbr hbS⟩
      case measure => simp [intOf]; omega
    · go_wp2
      go_ret
      exact ⟨rfl, hbr⟩
end Go.Proofs.Ytfecdgjnncpcjaa
/- What a law is handed as a list of effects, read as data. -/
set_option linter.unusedSimpArgs false
set_option linter.unusedVariables false
namespace Go.Proofs.Ytfecdgjnncpcjaa
open Go.ChangeShapes Go.WideShapes Go.ChangeAt Go.RowKit

theorem cells_leff : Try.prog.cellsOf 80 = 2 := by kernel_rfl
section
variable {H : Type} {enc : TypeId × Value → H} {W : World} {sp : Nat → Bool} {held : Bool}
set_option maxRecDepth 100000 in
theorem eff_open {fuel : Nat} {cs : List Value} {x : DataW H × List MemPlace} (h : DataW.trod enc Try.prog W 0 sp held fuel 80 cs = some x) :
    ∃ y : Int × Int, cs = [iv y.1, iv y.2] ∧ Fits y.1 ∧ Fits y.2 := by
  obtain ⟨xs, n, rfl, _, hcl, hxl, hf⟩ := DataW.trod_struct Try.underlying80 h
  rw [cells_leff] at hcl
  match cs, hcl with
  | [c0, c1], _ =>
    have f0 : DataW.trod enc Try.prog W 0 sp held n 3 (([c0, c1].drop 0).take (Try.prog.cellsOf 3)) = xs[0]? := hf 0 _ rfl
    have f1 : DataW.trod enc Try.prog W 0 sp held n 3 (([c0, c1].drop 1).take (Try.prog.cellsOf 3)) = xs[1]? := hf 1 _ rfl
    have hxl2 : xs.length = 2 := hxl
    rw [cells_int, List.getElem?_eq_getElem (by omega)] at f0 f1
    simp only [List.drop_zero, List.drop_succ_cons, List.take_succ_cons, List.take_zero] at f0 f1
    obtain ⟨o, e0, _, w0⟩ := DataW.trod_int Try.underlying3 f0
    obtain ⟨a, e1, _, w1⟩ := DataW.trod_int Try.underlying3 f1
    injection e0 with e0
    injection e1 with e1
    subst e0 e1
    exact ⟨(o, a), rfl, fits_of_wf w0, fits_of_wf w1⟩
theorem effs_open {fuel : Nat} {cs : List Value} {x : DataW H × List MemPlace} (h : DataW.trod enc Try.prog W 0 sp held fuel 41 cs = some x) :
    ∃ (A : Option Addr) (c : Nat) (es : List (Int × Int)), cs = [.slice A es.length c] ∧ Rd W W.heap.size A (effCells es) ∧ es.length ≤ 9223372036854775807 := by
  obtain ⟨A, c, len, rfl, hlc, hlen, hel⟩ := open_elems Try.underlying41 cells_leff h
  obtain ⟨ts, htl, hts⟩ := list_of (p := fun i (y : Int × Int) => Row W W.heap.size A (i * 2) [iv y.1, iv y.2]) (n := len) fun i hi => by
    obtain ⟨cs', f, y, hf, hr, ht⟩ := hel i hi
    obtain ⟨t, e, _⟩ := eff_open ht
    rw [e] at hr
    exact ⟨t, hr⟩
  subst htl
  refine ⟨A, c, ts, rfl, ?_, hlen⟩
  intro m u hu
  have hm : m < ts.length * 2 := by rw [← effCells_len]; exact (List.getElem?_eq_some_iff.1 hu).1
  have hi : m / 2 < ts.length := by omega
  have hr := hts _ hi
  rcases Nat.mod_two_eq_zero_or_one m with e | e
  · have em : m = m / 2 * 2 + 0 := by omega
    rw [em, Nat.add_zero, effCells_keep ts _ hi] at hu
    obtain ⟨ad, e1, e2, e3⟩ := hr 0 u hu
    exact ⟨ad, e1, e2, by rw [em]; exact e3⟩
  · have em : m = m / 2 * 2 + 1 := by omega
    rw [em, effCells_gen ts _ hi] at hu
    obtain ⟨ad, e1, e2, e3⟩ := hr 1 u hu
    exact ⟨ad, e1, e2, by rw [em]; exact e3⟩
end
end Go.Proofs.Ytfecdgjnncpcjaa
/- Contracts of behind and effectsRight, of l13Moved and l13Table. -/
set_option linter.unusedSimpArgs false
set_option linter.unusedVariables false
namespace Go.Proofs.Ytfecdgjnncpcjaa
open Go.ChangeShapes Go.WideShapes Go.ChangeAt Go.RowKit

def effB (e : Int × Int) : Bool := isSetB e.1 && isSetB e.2
/-- A table that fits n procedures. -/
def tabB (n : Nat) (es : List (Int × Int)) : Bool := decide (es.length = n) && es.all effB
def keepAt (es : List (Int × Int)) (a : Nat) : Nat := ((es[a]?).map fun e => e.1.toNat).getD 0
def genAt (es : List (Int × Int)) (a : Nat) : Nat := ((es[a]?).map fun e => e.2.toNat).getD 0
/-- What is held behind an instruction. -/
def movedV (op : Int) (arg : Nat) (es : List (Int × Int)) (held : Nat) : Nat :=
  if op = 6 then held ||| 2 ^ arg else if op = 7 then andNot held (2 ^ arg) else if op = 4 then (held &&& keepAt es arg) ||| genAt es arg else held

theorem effectsRight_any {B : Nat} (A : Option Addr) (c many : Nat) (es : List (Int × Int)) (w : World) (hk : Rd w B A (effCells es)) (hn : es.length ≤ 1048576) (hm : many ≤ 1048576) :
    Calls Try.prog 61 #[.int .i64 many, .slice A es.length c] w fun e w' => e = .returned (.bool (tabB many es)) ∧ Below w.heap.size w w' := by
  have hk0 := hk.full
  clear hk
  by_cases hl : es.length = many
  · have hne : ((es.length : Int) != many) = false := by simp [hl]
    have HL := Lib.hid hl
    clear hl
    go_enter Try.func61, Try.ntmps61
    go_wp2
    go_loopw [13] (fun i wr => ∃ k : Nat, k ≤ es.length ∧ i = .int .i64 k ∧ (es.take k).all effB = true ∧ Below w.heap.size w wr) (fun i _ => es.length - (intOf i).toNat)
    case atStart => exact ⟨0, Nat.zero_le _, rfl, by simp, Below.refl _ _⟩
    case round =>
      obtain ⟨k, hkl, rfl, hag, hbr⟩ := hrel
      have HA := Lib.hid hag
      clear hag
      by_cases hlt : k < es.length
      · obtain ⟨ad, rfl, hbl, k0, k1⟩ := (hk0.below hbr).eff hlt
        have HE := Lib.hid (show es.all effB = true → isSetB es[k].1 = true ∧ isSetB es[k].2 = true from fun h => by
          have := List.all_eq_true.1 h _ (List.getElem_mem hlt)
          simpa [effB] using this)
        have HS := Lib.hid (show isSetB es[k].1 = true → isSetB es[k].2 = true → (es.take (k + 1)).all effB = true from fun h1 h2 => by
          rw [List.take_succ_eq_append_getElem hlt, List.all_append, HA.out]
          simp [effB, h1, h2])
        have S1 := Lib.hid (fun w => isSet_any es[k].1 w)
        have S2 := Lib.hid (fun w => isSet_any es[k].2 w)
        generalize es[k].1 = a at *
        generalize es[k].2 = b at *
        generalize hsa : isSetB a = sa at *
        generalize hsb : isSetB b = sb at *
        cases sa
        · go_wp2_with (go_at_call 60; refine (S1.out _).mono ?_; rintro e w' ⟨rfl, rfl⟩)
          go_ret
          refine ⟨ret_bool ?_, below_trans' hbr (below_alloc0 _ _)⟩
          rw [tabB, Bool.and_eq_false_iff.2 (.inr (Bool.eq_false_iff.2 fun h => by have := (HE.out h).1; simp at this))]
        · cases sb
          · go_wp2_with fail
            refine (S1.out _).mono ?_
            rintro e w' ⟨rfl, rfl⟩
            go_wp2_with fail
            refine (S2.out _).mono ?_
            rintro e w' ⟨rfl, rfl⟩
            go_wp2_with fail
            go_ret
            refine ⟨ret_bool ?_, below_trans' hbr (below_alloc0 _ _)⟩
            rw [tabB, Bool.and_eq_false_iff.2 (.inr (Bool.eq_false_iff.2 fun h => by have := (HE.out h).2; simp at this))]
          · go_wp2_with fail
            refine (S1.out _).mono ?_
            rintro e w' ⟨rfl, rfl⟩
            go_wp2_with fail
            refine (S2.out _).mono ?_
            rintro e w' ⟨rfl, rfl⟩
            go_wp2_with fail
            go_roundw
            case rel => exact ⟨k + 1, by omega, by go_num, HS.out (by simp) (by simp), below_trans' hbr (below_alloc0 _ _)⟩
            case measure => simp [intOf]; omega
      · go_wp2
        go_ret
        refine ⟨ret_bool ?_, hbr⟩
        have := HA.out
        rw [List.take_of_length_le (by omega)] at this
        simp [tabB, HL.out, this]
  · have hne : ((es.length : Int) != many) = true := by simp; omega
    go_enter Try.func61, Try.ntmps61
    go_wp2
    go_ret
    exact ⟨ret_bool (by simp [tabB, hl]), Below.refl _ _⟩

theorem l13Table_any {B : Nat} (v : CV) (k : Cd) (A : Option Addr) (c : Nat) (es : List (Int × Int)) (w : World) (hk : Rd w B A (effCells es)) (hn : es.length ≤ 1048576) (hm : k.procs.length ≤ 1048576) :
    Calls Try.prog 55 #[.agg #[.slice v.gA k.globals.length v.gc, .slice v.lA k.locks.length v.lc, .slice v.pA k.procs.length v.pc, .slice v.eA k.entry.length v.ec, .slice v.iA k.ins.length v.ic], .slice A es.length c] w fun e w' => e = .returned (.bool (tabB k.procs.length es)) ∧ Below w.heap.size w w' := by
  have hk0 := hk.full
  clear hk
  have hb0 := below_alloc0 w (.cells #[.slice v.gA k.globals.length v.gc, .slice v.lA k.locks.length v.lc, .slice v.pA k.procs.length v.pc, .slice v.eA k.entry.length v.ec, .slice v.iA k.ins.length v.ic] 31)
  by_cases hl : es.length = k.procs.length
  · have hne : ((es.length : Int) != k.procs.length) = false := by simp [hl]
    have HL := Lib.hid hl
    clear hl
    go_enter Try.func55, Try.ntmps55
    go_wp2
    generalize w.alloc (.cells #[.slice v.gA k.globals.length v.gc, .slice v.lA k.locks.length v.lc, .slice v.pA k.procs.length v.pc, .slice v.eA k.entry.length v.ec, .slice v.iA k.ins.length v.ic] 31) = W at hb0 ⊢
    go_loopw [5] (fun i wr => ∃ j : Nat, j ≤ es.length ∧ i = .int .i64 j ∧ (es.take j).all effB = true ∧ Below w.heap.size w wr) (fun i _ => es.length - (intOf i).toNat)
    case atStart => exact ⟨0, Nat.zero_le _, rfl, by simp, hb0⟩
    case round =>
      obtain ⟨j, hkl, rfl, hag, hbr⟩ := hrel
      have HA := Lib.hid hag
      clear hag
      by_cases hlt : j < es.length
      · obtain ⟨ad, rfl, hbl, k0, k1⟩ := (hk0.below hbr).eff hlt
        have HE := Lib.hid (show es.all effB = true → isSetB es[j].1 = true ∧ isSetB es[j].2 = true from fun h => by
          have := List.all_eq_true.1 h _ (List.getElem_mem hlt)
          simpa [effB] using this)
        have HS := Lib.hid (show isSetB es[j].1 = true → isSetB es[j].2 = true → (es.take (j + 1)).all effB = true from fun h1 h2 => by
          rw [List.take_succ_eq_append_getElem hlt, List.all_append, HA.out]
          simp [effB, h1, h2])
        have S1 := Lib.hid (fun w => l12Ok_any es[j].1 w)
        have S2 := Lib.hid (fun w => l12Ok_any es[j].2 w)
        generalize es[j].1 = a at *
        generalize es[j].2 = b at *
        generalize hsa : isSetB a = sa at *
        generalize hsb : isSetB b = sb at *
        cases sa
        · go_wp2_with fail
          refine (S1.out _).mono ?_
          rintro e w' ⟨rfl, rfl⟩
          go_wp2_with fail
          go_ret
          refine ⟨ret_bool ?_, hbr⟩
          rw [tabB, Bool.and_eq_false_iff.2 (.inr (Bool.eq_false_iff.2 fun h => by have := (HE.out h).1; simp at this))]
        · cases sb
          · go_wp2_with fail
            refine (S1.out _).mono ?_
            rintro e w' ⟨rfl, rfl⟩
            go_wp2_with fail
            refine (S2.out _).mono ?_
            rintro e w' ⟨rfl, rfl⟩
            go_wp2_with fail
            go_ret
            refine ⟨ret_bool ?_, hbr⟩
            rw [tabB, Bool.and_eq_false_iff.2 (.inr (Bool.eq_false_iff.2 fun h => by have := (HE.out h).2; simp at this))]
          · go_wp2_with fail
            refine (S1.out _).mono ?_
            rintro e w' ⟨rfl, rfl⟩
            go_wp2_with fail
            refine (S2.out _).mono ?_
            rintro e w' ⟨rfl, rfl⟩
            go_wp2_with fail
            go_roundw
            case rel => exact ⟨j + 1, by omega, by go_num, HS.out (by simp) (by simp), hbr⟩
            case measure => simp [intOf]; omega
      · go_wp2
        go_ret
        refine ⟨ret_bool ?_, hbr⟩
        have := HA.out
        rw [List.take_of_length_le (by omega)] at this
        simp [tabB, HL.out, this]
  · have hne : ((es.length : Int) != k.procs.length) = true := by simp; omega
    go_enter Try.func55, Try.ntmps55
    go_wp2
    go_ret
    exact ⟨ret_bool (by simp [tabB, hl]), hb0⟩

theorem behind_any {B : Nat} (op arg : Int) (n : Nat) (t : Tm) (to : Int) (Ak A : Option Addr) (ck c : Nat) (es : List (Int × Int)) (held : Nat) (w : World) (hk : Rd w B A (effCells es)) (hn : es.length ≤ 1048576)
    (hes : ∀ e ∈ es, effB e = true) (hh : held < 64) (ha : arg = n) (h67 : op = 6 ∨ op = 7 → n < 6) (h4 : op = 4 → n < es.length) :
    Calls Try.prog 95 #[.agg #[.int .i64 op, .int .i64 arg, .int .i64 t.kind, .int .i64 t.num, .string t.name, .slice Ak t.kids.length ck, .int .i64 to], .slice A es.length c, .int .i64 held] w fun e w' => e = .returned (.int .i64 (movedV op n es held : Nat)) ∧ Below w.heap.size w w' := by
  subst ha
  have hcase : op = 6 ∨ op = 7 ∨ op = 4 ∨ (op ≠ 6 ∧ op ≠ 7 ∧ op ≠ 4) := by omega
  rcases hcase with rfl | rfl | rfl | ⟨h6, h7, h4'⟩
  · have hn6 := h67 (.inl rfl)
    have e := or_bit64 held n (by omega) (by omega)
    go_enter Try.func95, Try.ntmps95
    go_wp2
    go_ret
    refine ⟨ret_int ?_, below_alloc0 _ _⟩
    rw [shl_one n (by omega), ← two_pow_cast]
    simpa [movedV] using e
  · have hn6 := h67 (.inr rfl)
    have e := andNot_bit64 held n (by omega) (by omega)
    go_enter Try.func95, Try.ntmps95
    go_wp2
    go_ret
    refine ⟨ret_int ?_, below_alloc0 _ _⟩
    rw [shl_one n (by omega), ← two_pow_cast]
    simpa [movedV] using e
  · have hnl := h4 rfl
    obtain ⟨ad, rfl, hbl, k0, k1⟩ := (hk.full.below (below_alloc0 w (.cells #[.int .i64 4, .int .i64 n, .int .i64 t.kind, .int .i64 t.num, .string t.name, .slice Ak t.kids.length ck, .int .i64 to] 96))).eff hnl
    have z1 : (0 : Int) ≤ (n : Int) := by omega
    have z2 : (n : Int) < (es.length : Int) := by omega
    have hE := hes _ (List.getElem_mem hnl)
    simp only [effB, Bool.and_eq_true] at hE
    obtain ⟨a, ea, ha⟩ := isSetB_nat hE.1
    obtain ⟨b, eb, hb⟩ := isSetB_nat hE.2
    rw [ea] at k0
    rw [eb] at k1
    have HM := Lib.hid (show movedV 4 n es held = (held &&& a) ||| b from by simp [movedV, keepAt, genAt, hnl, ea, eb])
    have e1 := i64_and_nat held a (by omega) (by omega)
    have hle : held &&& a ≤ held := Nat.and_le_left
    have e2 := i64_or_nat (held &&& a) b (by omega) (by omega)
    clear ea eb hE
    go_enter Try.func95, Try.ntmps95
    go_wp2
    go_quiet (fail)
    go_wp2
    go_ret
    refine ⟨ret_int ?_, below_drewN (below_alloc0 _ _) _⟩
    rw [HM.out]
  · have e6 : (op == 6) = false := by simpa using h6
    have e7 : (op == 7) = false := by simpa using h7
    have e4 : (op == 4) = false := by simpa using h4'
    have HM := Lib.hid (show movedV op n es held = held from by simp [movedV, h6, h7, h4'])
    clear h6 h7 h4' h67 h4
    go_enter Try.func95, Try.ntmps95
    go_wp2
    go_ret
    exact ⟨ret_int (by rw [HM.out]), below_alloc0 _ _⟩

theorem l13Moved_any {B : Nat} (op arg : Int) (n : Nat) (t : Tm) (to : Int) (Ak A : Option Addr) (ck c : Nat) (es : List (Int × Int)) (held : Nat) (w : World) (hk : Rd w B A (effCells es)) (hn : es.length ≤ 1048576)
    (hes : ∀ e ∈ es, effB e = true) (hh : held < 64) (ha : arg = n) (h67 : op = 6 ∨ op = 7 → n < 6) (h4 : op = 4 → n < es.length) :
    Calls Try.prog 93 #[.agg #[.int .i64 op, .int .i64 arg, .int .i64 t.kind, .int .i64 t.num, .string t.name, .slice Ak t.kids.length ck, .int .i64 to], .slice A es.length c, .int .i64 held] w fun e w' => e = .returned (.int .i64 (movedV op n es held : Nat)) ∧ Below w.heap.size w w' := by
  subst ha
  have hcase : op = 6 ∨ op = 7 ∨ op = 4 ∨ (op ≠ 6 ∧ op ≠ 7 ∧ op ≠ 4) := by omega
  rcases hcase with rfl | rfl | rfl | ⟨h6, h7, h4'⟩
  · have hn6 := h67 (.inl rfl)
    have e := i64_or_nat held (2 ^ n) (by omega) (two_pow_lt n (by omega))
    go_enter Try.func93, Try.ntmps93
    go_wp2_with fail
    refine (l12Bit_any n _ (by omega)).mono ?_
    rintro r w' ⟨rfl, rfl⟩
    go_wp2_with fail
    go_ret
    refine ⟨ret_int ?_, below_alloc0 _ _⟩
    simpa [movedV] using e
  · have hn6 := h67 (.inr rfl)
    have h2 : 2 ^ n < 64 := (Nat.pow_lt_pow_right (by omega) hn6 : 2 ^ n < 2 ^ 6)
    have HM := Lib.hid (show withoutV (held : Int) ((2 ^ n : Nat) : Int) = (movedV 7 n es held : Nat) from by
      simp only [withoutV, isSetB_of_nat hh, isSetB_of_nat h2, Bool.and_self, if_true, Int.toNat_natCast]
      rfl)
    go_enter Try.func93, Try.ntmps93
    go_wp2_with fail
    refine (l12Bit_any n _ (by omega)).mono ?_
    rintro r w' ⟨rfl, rfl⟩
    go_wp2_with fail
    refine (without_s _ _ _).mono ?_
    rintro r w' ⟨rfl, rfl⟩
    go_wp2_with fail
    go_ret
    exact ⟨ret_int HM.out, below_alloc0 _ _⟩
  · have hnl := h4 rfl
    obtain ⟨ad, rfl, hbl, k0, k1⟩ := (hk.full.below (below_alloc0 w (.cells #[.int .i64 4, .int .i64 n, .int .i64 t.kind, .int .i64 t.num, .string t.name, .slice Ak t.kids.length ck, .int .i64 to] 96))).eff hnl
    have z1 : (0 : Int) ≤ (n : Int) := by omega
    have z2 : (n : Int) < (es.length : Int) := by omega
    have hE := hes _ (List.getElem_mem hnl)
    simp only [effB, Bool.and_eq_true] at hE
    obtain ⟨a, ea, ha⟩ := isSetB_nat hE.1
    obtain ⟨b, eb, hb⟩ := isSetB_nat hE.2
    rw [ea] at k0
    rw [eb] at k1
    have HM := Lib.hid (show movedV 4 n es held = (held &&& a) ||| b from by simp [movedV, keepAt, genAt, hnl, ea, eb])
    have e1 := i64_and_nat held a (by omega) (by omega)
    have hle : held &&& a ≤ held := Nat.and_le_left
    have e2 := i64_or_nat (held &&& a) b (by omega) (by omega)
    clear ea eb hE
    go_enter Try.func93, Try.ntmps93
    go_wp2
    go_quiet (fail)
    go_wp2
    go_ret
    refine ⟨ret_int ?_, below_drewN (below_alloc0 _ _) _⟩
    rw [HM.out]
  · have e6 : (op == 6) = false := by simpa using h6
    have e7 : (op == 7) = false := by simpa using h7
    have e4 : (op == 4) = false := by simpa using h4'
    have HM := Lib.hid (show movedV op n es held = held from by simp [movedV, h6, h7, h4'])
    clear h6 h7 h4' h67 h4
    go_enter Try.func93, Try.ntmps93
    go_wp2
    go_ret
    exact ⟨ret_int (by rw [HM.out]), below_alloc0 _ _⟩

/-- What Moved answers. -/
def movedA (k : Cd) (es : List (Int × Int)) (at_ held : Int) : Int :=
  if 0 ≤ at_ ∧ at_ < k.ins.length ∧ isSetB held = true ∧ tabB k.procs.length es = true ∧ codeOkI k = true then
    match k.ins[at_.toNat]? with
    | some x => (movedV x.op x.arg.toNat es held.toNat : Nat)
    | none => 0
  else 0

theorem l09At_any {B L : Nat} (v : CV) (k : Cd) (at_ : Int) (w : World) (hk : CodeAt w B v k) (hcb : CdB L k) (hL : L ≤ 1099511627776) :
    Calls Try.prog 32 #[.agg #[.slice v.gA k.globals.length v.gc, .slice v.lA k.locks.length v.lc, .slice v.pA k.procs.length v.pc, .slice v.eA k.entry.length v.ec, .slice v.iA k.ins.length v.ic], .int .i64 at_] w fun e w' => e = .returned (.bool (codeOkI k && (decide (0 ≤ at_) && decide (at_ < k.ins.length)))) ∧ Below w.heap.size w w' := by
  have hl := hcb.ins
  have hcs := codeOk_s v k (w.alloc (.cells #[.slice v.gA k.globals.length v.gc, .slice v.lA k.locks.length v.lc, .slice v.pA k.procs.length v.pc, .slice v.eA k.entry.length v.ec, .slice v.iA k.ins.length v.ic] 31)) (hk.full.below (below_alloc0 _ _)) hcb hL
  rw [← codeOk_eq] at hcs
  have HC := Lib.hid hcs
  have hbx := codeBox w v k
  clear hcs hcb
  generalize codeOkI k = ok at *
  go_enter Try.func32, Try.ntmps32
  go_wp2_with fail
  generalize w.alloc (.cells #[.slice v.gA k.globals.length v.gc, .slice v.lA k.locks.length v.lc, .slice v.pA k.procs.length v.pc, .slice v.eA k.entry.length v.ec, .slice v.iA k.ins.length v.ic] 31) = W at hbx HC ⊢
  refine HC.out.mono ?_
  rintro r w1 ⟨rfl, hb1⟩
  obtain ⟨hbw, hsz, c0, c1, c2, c3, c4⟩ := hbx.to hb1
  cases ok
  · go_wp2_with fail
    go_ret
    exact ⟨rfl, hbw⟩
  · go_wp2_with fail
    refine (l01In_any _ _ _ _).mono ?_
    rintro r w2 ⟨rfl, rfl⟩
    go_wp2_with fail
    go_ret
    refine ⟨ret_bool ?_, hbw⟩
    rw [Bool.eq_iff_iff]
    simp
    omega
end Go.Proofs.Ytfecdgjnncpcjaa
/- Contracts of Moved, of the program and of the reference. -/
set_option linter.unusedSimpArgs false
set_option linter.unusedVariables false
namespace Go.Proofs.Ytfecdgjnncpcjaa
open Go.ChangeShapes Go.WideShapes Go.ChangeAt Go.RowKit

theorem movedA_no {k : Cd} {es : List (Int × Int)} {a h : Int} (hn : (decide (0 ≤ a) && decide (a < k.ins.length)) = false ∨ isSetB h = false ∨ tabB k.procs.length es = false ∨ codeOkI k = false) : movedA k es a h = 0 := by
  rw [movedA, if_neg]
  rintro ⟨h1, h2, h3, h4, h5⟩
  rcases hn with e | e | e | e
  · simp [h1, h2] at e
  · rw [h3] at e; simp at e
  · rw [h4] at e; simp at e
  · rw [h5] at e; simp at e
theorem movedA_yes {k : Cd} {es : List (Int × Int)} {n h : Nat} (hl : n < k.ins.length) (h1 : isSetB (h : Int) = true) (h2 : tabB k.procs.length es = true) (h3 : codeOkI k = true) : movedA k es n h = (movedV k.ins[n].op k.ins[n].arg.toNat es h : Nat) := by
  rw [movedA, if_pos ⟨by omega, by omega, h1, h2, h3⟩]
  simp [hl]
/-- What is needed of the arguments where all is right. -/
theorem moved_pre {k : Cd} {es : List (Int × Int)} {n : Nat} (hl : n < k.ins.length) (h2 : tabB k.procs.length es = true) (h3 : codeOkI k = true) :
    (∀ e ∈ es, effB e = true) ∧ k.ins[n].arg = (k.ins[n].arg.toNat : Int) ∧ (k.ins[n].op = 6 ∨ k.ins[n].op = 7 → k.ins[n].arg.toNat < 6) ∧ (k.ins[n].op = 4 → k.ins[n].arg.toNat < es.length) := by
  have hr := right_of h3
  obtain ⟨a1, a2⟩ := hr.arg n hl
  simp only [tabB, Bool.and_eq_true, decide_eq_true_eq, List.all_eq_true] at h2
  refine ⟨h2.2, by omega, ?_, ?_⟩
  · intro ho
    rw [argMost, if_neg (by omega), if_neg (by omega), if_pos ho] at a2
    have := hr.locks
    omega
  · intro ho
    rw [argMost, if_neg (by omega), if_pos (.inl ho)] at a2
    have := h2.1
    omega

end Go.Proofs.Ytfecdgjnncpcjaa
