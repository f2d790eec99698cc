/- Effects in memory, and the law helpers over lists of them. -/
import Derived.Test.YtjnlmiekldflhaaLTo
import Derived.Test.YtjnlmiekldflhaaLEq
set_option linter.unusedSimpArgs false
set_option linter.unusedVariables false
namespace Go.Proofs.Ytjnlmiekldflhaa
open Go.ChangeShapes Go.WideShapes Go.ChangeAt Go.RowKit

/-- The cells of a list of effects: Keep, then Gen, of each. -/
def effCells : List (Int × Int) → List Value
  | [] => []
  | e :: r => iv e.1 :: iv e.2 :: effCells r
theorem effCells_len (es : List (Int × Int)) : (effCells es).length = es.length * 2 := by
  induction es with
  | nil => rfl
  | cons e r ih => simp [effCells, ih]; omega
theorem effCells_keep : ∀ (es : List (Int × Int)) (i : Nat) (h : i < es.length), (effCells es)[i * 2]? = some (iv es[i].1)
  | e :: r, 0, _ => rfl
  | e :: r, i + 1, h => by
    have := effCells_keep r i (by simpa using h)
    rw [Nat.add_mul]
    simpa [effCells] using this
theorem effCells_gen : ∀ (es : List (Int × Int)) (i : Nat) (h : i < es.length), (effCells es)[i * 2 + 1]? = some (iv es[i].2)
  | e :: r, 0, _ => rfl
  | e :: r, i + 1, h => by
    have := effCells_gen r i (by simpa using h)
    have e : (i + 1) * 2 + 1 = (i * 2 + 1) + 1 + 1 := by omega
    rw [e]
    simpa [effCells] using this
theorem effCells_of {ys : List Value} {es : List (Int × Int)} {cs : Nat → List Value} (hl : ys.length = es.length * 2) (h : RowsAt ys 2 cs es.length) (hc : ∀ i (hi : i < es.length), cs i = [iv es[i].1, iv es[i].2]) : ys = effCells es := by
  apply List.ext_getElem?
  intro m
  by_cases hm : m < es.length * 2
  · have hi : m / 2 < es.length := by omega
    obtain ⟨_, h2⟩ := h _ hi
    rw [hc _ hi] at h2
    rcases Nat.mod_two_eq_zero_or_one m with e | e
    · have := h2 0 _ rfl
      have em : m = m / 2 * 2 := by omega
      rw [em, effCells_keep es _ hi, ← this]
      simp
    · have := h2 1 _ rfl
      have em : m = m / 2 * 2 + 1 := by omega
      rw [em, effCells_gen es _ hi, ← this]
  · rw [List.getElem?_eq_none (by omega), List.getElem?_eq_none (by rw [effCells_len]; omega)]
theorem Rd.eff {w : World} {B : Nat} {A : Option Addr} {es : List (Int × Int)} (h : Rd w B A (effCells es)) {i : Nat} (hi : i < es.length) : ∃ ad, A = some ad ∧ (ad.add (i * 2)).block < B ∧
    w.cell? (ad.add (i * 2)) = some (.int .i64 es[i].1) ∧ w.cell? ⟨(ad.add (i * 2)).block, (ad.add (i * 2)).off + 1, none⟩ = some (.int .i64 es[i].2) := by
  obtain ⟨ad, rfl, hb, c0⟩ := h _ _ (effCells_keep es i hi)
  obtain ⟨ad', e', _, c1⟩ := h _ _ (effCells_gen es i hi)
  cases e'
  rw [add_pos_eq _ _ 1 (by omega)] at c1
  exact ⟨ad, rfl, by rw [block_of_add]; exact hb, c0, c1⟩

theorem szEffectS_any (A : Option Addr) (c n : Nat) (left : Nat) (w : World) (hn : n ≤ 9223372036854775807) (hl : left ≤ 1048576) :
    Calls Try.prog 16 #[.slice A n c, .int .i64 left] w (Szd w left fun r => r + n ≤ left) := by
  go_enter Try.func16, Try.ntmps16
  by_cases h : n ≤ left
  · go_wp2
    go_ret
    exact ⟨Below.refl _ _, .inr ⟨left - n, by go_num, by omega, by omega⟩⟩
  · go_wp2
    go_ret
    exact ⟨Below.refl _ _, .inl rfl⟩

theorem info_eff : (Try.prog.info? 62).map (fun i => (i.zero, i.size, i.bytes)) = some (some (.agg #[.int .i64 0, .int .i64 0]), 2, 16) := by kernel_rfl

theorem toEffect_any (a b : Int) (w : World) : Calls Try.prog 62 #[.agg #[.int .i64 a, .int .i64 b]] w fun e w' => e = .returned (.agg #[.int .i64 a, .int .i64 b]) ∧ Below w.heap.size w w' := by
  go_enter Try.func62, Try.ntmps62
  go_wp2_with fail
  have hB : Below w.heap.size w ((w.alloc (.cells #[.int .i64 a, .int .i64 b] 64)).alloc (.cells #[.int .i64 a, .int .i64 b] 62)) := below_trans' (below_alloc0 _ _) (below_alloc0 _ _)
  have hh : ((w.alloc (.cells #[.int .i64 a, .int .i64 b] 64)).alloc (.cells #[.int .i64 a, .int .i64 b] 62)).heap[w.heap.size + 1]? = some (.cells #[.int .i64 a, .int .i64 b] 62) := by
    have := heap_alloc_new (w.alloc (.cells #[.int .i64 a, .int .i64 b] 64)) (.cells #[.int .i64 a, .int .i64 b] 62)
    simpa using this
  have hfin := (Below.heap_alloc ((w.alloc (.cells #[.int .i64 a, .int .i64 b] 64)).alloc (.cells #[.int .i64 a, .int .i64 b] 62)) (.cells #[.int .i64 a, .int .i64 b] 62) (w.heap.size + 1) (by simp)).trans hh
  refine bodyPost_ret (results_cell_row rfl _ _ _ _ _ _ _ rfl hfin Try.underlying62 rfl (by kernel_rfl)) rfl ?_
  exact ⟨rfl, below_trans' hB (below_alloc0 _ _)⟩

section
variable (w : World) {ops : Array Oper} {rest : List Oper} {o : Oper} {a : Act} {Q : Exit → Act → World → Prop}
/-- make([]Effect, n). -/
theorem make_effs (hg : o.guard = none) (l c : Operand) (hop : o.op = Op.makeSlice 35 l c) (n : Nat) (hl : a.eval l = .int .i64 (n : Int)) (hc : a.eval c = .int .i64 (n : Int)) (hn : n ≤ 1048576)
    (hK : ∀ w' xs, w'.ownsRow w.heap.size 62 2 (.slice (some ⟨w.heap.size, 0, none⟩) n n) n xs → Below w.heap.size w w' →
      wpList Try.prog ops Q rest (a.put o.dst (.slice (some ⟨w.heap.size, 0, none⟩) n n)) w') : wpList Try.prog ops Q (o :: rest) a w := by
  obtain ⟨i0, hi, hz0, hz1, hz2⟩ := info_parts info_eff
  refine wpList_make_full w hg l c _ hop w.heap.size _ i0 _ 2 Try.underlying35 hi hz0 hz1 _ _ _ _ n hl hc rfl rfl (by rw [hz2]; omega) (by unfold maxLen; omega) (Nat.le_refl _) ?_
  intro w' h1 h2
  exact hK w' _ h1 ((Below.refl _ _).grown h2 (Nat.le_refl _) (by simp))
end

set_option maxHeartbeats 1000000 in
theorem toEffectS_any {B : Nat} (A : Option Addr) (c : Nat) (es : List (Int × Int)) (w : World) (hk : Rd w B A (effCells es)) (hn : es.length ≤ 1048576) :
    Calls Try.prog 19 #[.slice A es.length c] w (NewRow w 62 2 es.length (effCells es)) := by
  have hk0 := hk.full
  clear hk
  go_enter Try.func19, Try.ntmps19
  go_wp2_with (at_make; refine make_effs _ rfl _ _ rfl es.length rfl rfl hn ?_; intro w1 xs0 hown hb)
  go_loopw [4] (fun i wr => ∃ (k : Nat) (ys : List Value) (cs : Nat → List Value), k ≤ es.length ∧ i = .int .i64 k ∧ wr.ownsRow w.heap.size 62 2 (.slice (some ⟨w.heap.size, 0, none⟩) es.length es.length) es.length ys ∧
    RowsAt ys 2 cs k ∧ (∀ i (h : i < es.length), i < k → cs i = [iv es[i].1, iv es[i].2]) ∧ Below w.heap.size w wr ∧ w.heap.size + 1 ≤ wr.heap.size) (fun i _ => es.length - (intOf i).toNat)
  case atStart => exact ⟨0, _, fun _ => [], Nat.zero_le _, rfl, hown, RowsAt.zero _ _ _, fun i _ hi => by omega, hb, (hown.lt _ rfl).2⟩
  case round =>
    obtain ⟨k, ys, cs, hk, rfl, ho, hag, htm, hbr, hsz⟩ := hrel
    clear hown hb
    have HT := Lib.hid htm
    have HA := Lib.hid hag
    clear htm hag
    by_cases hlt : k < es.length
    · have hk' := hk0.below hbr
      obtain ⟨ad, rfl, hbl, k0, k1⟩ := hk'.eff hlt
      go_wp2_with fail
      refine (toEffect_any _ _ _).mono ?_
      rintro e w2 ⟨rfl, hb2⟩
      have ho2 := own_below ho hb2
      obtain ⟨u0, hu0⟩ := own_has ho2 (j := k * 2 + 0) (by omega)
      obtain ⟨u1, hu1⟩ := own_has ho2 (j := k * 2 + 1) (by omega)
      have hf0 := ho2.frozenAt (k * 2 + 0)
      have hf1 := ho2.frozenAt (k * 2 + 1)
      rw [Nat.add_zero] at hu0 hf0
      go_wp2_with fail
      obtain ⟨s1, s2⟩ := setL_own [.int .i64 es[k].1, .int .i64 es[k].2] w2 ys (k * 2) ho2
      have s3 := s2.size
      have s4 := hb2.size
      go_roundw
      case rel =>
        refine ⟨k + 1, _, _, by omega, by go_num, s1, HA.out.put _ rfl ho2.1 hlt, ?_, (below_trans' hbr hb2).grown s2 (Nat.le_trans hbr.size s4) (fun k hk => by cases hk; exact Nat.le_refl _), Nat.le_trans (Nat.le_trans hsz s4) s3⟩
        intro i h hi
        by_cases e : i = k
        · subst e
          rw [if_pos rfl]
          rfl
        · rw [if_neg e]
          exact HT.out i h (by omega)
      case measure => simp [intOf]; omega
    · go_wp2
      go_ret
      obtain rfl : k = es.length := by omega
      have e := effCells_of ho.1 HA.out fun i hi => HT.out i hi hi
      subst e
      exact ⟨_, _, rfl, ho, hbr⟩

theorem eqEffect_any (a b : Int) (w : World) : Calls Try.prog 69 #[.agg #[.int .i64 a, .int .i64 b], .agg #[.int .i64 a, .int .i64 b]] w (Yes w) := by
  have e1 : (a != a) = false := by simp
  have e2 : (b != b) = false := by simp
  go_enter Try.func69, Try.ntmps69
  go_wp2_with fail
  go_ret
  exact ⟨rfl, below_trans' (below_alloc0 _ _) (below_alloc0 _ _)⟩

theorem eqEffectS_any {B B' : Nat} (A A' : Option Addr) (c d : Nat) (es : List (Int × Int)) (w : World) (hk : Rd w B A (effCells es)) (hj : Rd w B' A' (effCells es)) (hn : es.length ≤ 1048576) :
    Calls Try.prog 22 #[.slice A es.length c, .slice A' es.length d] w (Yes w) := by
  have hk0 := hk.full
  have hj0 := hj.full
  clear hk hj
  have hne : ((es.length : Int) != es.length) = false := by simp
  go_enter Try.func22, Try.ntmps22
  go_wp2
  go_loopw [5] (fun i wr => ∃ k : Nat, k ≤ es.length ∧ i = .int .i64 k ∧ Below w.heap.size w wr) (fun i _ => es.length - (intOf i).toNat)
  case atStart => exact ⟨0, Nat.zero_le _, rfl, Below.refl _ _⟩
  case round =>
    obtain ⟨k, hk, rfl, hbr⟩ := hrel
    by_cases hlt : k < es.length
    · have hk' := hk0.below hbr
      have hj' := hj0.below hbr
      obtain ⟨ad, rfl, hbl, k0, k1⟩ := hk'.eff hlt
      obtain ⟨bd, rfl, hbl2, l0, l1⟩ := hj'.eff hlt
      have z1 : (0 : Int) ≤ (k : Int) := by omega
      have z2 : (k : Int) < (es.length : Int) := by omega
      go_wp2_with fail
      go_region_held3 (fun w' => Below wr.heap.size wr w' ∧ w'.cell? (ad.add (k * 2)) = some (.int .i64 es[k].1) ∧ w'.cell? ⟨(ad.add (k * 2)).block, (ad.add (k * 2)).off + 1, none⟩ = some (.int .i64 es[k].2) ∧
          w'.cell? (bd.add (k * 2)) = some (.int .i64 es[k].1) ∧ w'.cell? ⟨(bd.add (k * 2)).block, (bd.add (k * 2)).off + 1, none⟩ = some (.int .i64 es[k].2))
        (first | exact ⟨(Below.refl _ _).drew, k0, k1, l0, l1⟩ | assumption | (go_split_ands; refine ⟨below_trans' (by assumption) hb1, ?_, ?_, ?_, ?_⟩ <;> exact cell_below hb1 (by assumption)))
        (first | (go_at_call 69; refine (eqEffect_any _ _ _).mono ?_; rintro e w1 ⟨rfl, hb1⟩))
      rename_i W1 _ hS
      have hbS := hS.1
      clear hS k0 k1 l0 l1
      go_wp2_with fail
      go_roundw
      case rel => exact ⟨k + 1, by omega, by go_num, below_trans' hbr hbS⟩
      case measure => simp [intOf]; omega
    · go_wp2
      go_ret
      exact ⟨rfl, hbr⟩
end Go.Proofs.Ytjnlmiekldflhaa
