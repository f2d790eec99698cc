/- Arcs in memory, and the law helpers over lists of them. -/
import Derived.Test.YtkgoajnnkimkaaaK0
import Derived.Test.YtkgoajnnkimkaaaB2
import Derived.Deep.RegionHeld3
set_option linter.unusedSimpArgs false
set_option linter.unusedVariables false
namespace Go.Proofs.Ytkgoajnnkimkaaa
open Go.ChangeShapes Go.WideShapes Go.ChangeAt Go.RowKit

/-- The answer of a function that counts off from left: some number not below -1 and not above left; if it is no -1, then P of it. -/
def Szd (w : World) (left : Nat) (P : Nat → Prop) (e : Ending) (w' : World) : Prop :=
  Below w.heap.size w w' ∧ ((e = .returned (.int .i64 (-1))) ∨ ∃ r : Nat, e = .returned (.int .i64 r) ∧ r ≤ left ∧ P r)

def Yes (w : World) (e : Ending) (w' : World) : Prop := e = .returned (.bool true) ∧ Below w.heap.size w w'
/-- The cells of a list of arcs: From, then To, of each. -/
def arcCells : List (Int × Int) → List Value
  | [] => []
  | e :: r => iv e.1 :: iv e.2 :: arcCells r
theorem arcCells_len (es : List (Int × Int)) : (arcCells es).length = es.length * 2 := by
  induction es with
  | nil => rfl
  | cons e r ih => simp [arcCells, ih]; omega
theorem arcCells_keep : ∀ (es : List (Int × Int)) (i : Nat) (h : i < es.length), (arcCells es)[i * 2]? = some (iv es[i].1)
  | e :: r, 0, _ => rfl
  | e :: r, i + 1, h => by
    have := arcCells_keep r i (by simpa using h)
    rw [Nat.add_mul]
    simpa [arcCells] using this
theorem arcCells_gen : ∀ (es : List (Int × Int)) (i : Nat) (h : i < es.length), (arcCells es)[i * 2 + 1]? = some (iv es[i].2)
  | e :: r, 0, _ => rfl
  | e :: r, i + 1, h => by
    have := arcCells_gen r i (by simpa using h)
    have e : (i + 1) * 2 + 1 = (i * 2 + 1) + 1 + 1 := by omega
    rw [e]
    simpa [arcCells] using this
theorem arcCells_of {ys : List Value} {es : List (Int × Int)} {cs : Nat → List Value} (hl : ys.length = es.length * 2) (h : RowsAt ys 2 cs es.length) (hc : ∀ i (hi : i < es.length), cs i = [iv es[i].1, iv es[i].2]) : ys = arcCells es := by
  apply List.ext_getElem?
  intro m
  by_cases hm : m < es.length * 2
  · have hi : m / 2 < es.length := by omega
    obtain ⟨_, h2⟩ := h _ hi
    rw [hc _ hi] at h2
    rcases Nat.mod_two_eq_zero_or_one m with e | e
    · have := h2 0 _ rfl
      have em : m = m / 2 * 2 := by omega
      rw [em, arcCells_keep es _ hi, ← this]
      simp
    · have := h2 1 _ rfl
      have em : m = m / 2 * 2 + 1 := by omega
      rw [em, arcCells_gen es _ hi, ← this]
  · rw [List.getElem?_eq_none (by omega), List.getElem?_eq_none (by rw [arcCells_len]; omega)]
theorem Rd.arc {w : World} {B : Nat} {A : Option Addr} {es : List (Int × Int)} (h : Rd w B A (arcCells es)) {i : Nat} (hi : i < es.length) : ∃ ad, A = some ad ∧ (ad.add (i * 2)).block < B ∧
    w.cell? (ad.add (i * 2)) = some (.int .i64 es[i].1) ∧ w.cell? ⟨(ad.add (i * 2)).block, (ad.add (i * 2)).off + 1, none⟩ = some (.int .i64 es[i].2) := by
  obtain ⟨ad, rfl, hb, c0⟩ := h _ _ (arcCells_keep es i hi)
  obtain ⟨ad', e', _, c1⟩ := h _ _ (arcCells_gen es i hi)
  cases e'
  rw [add_pos_eq _ _ 1 (by omega)] at c1
  exact ⟨ad, rfl, by rw [block_of_add]; exact hb, c0, c1⟩

theorem szArcS_any (A : Option Addr) (c n : Nat) (left : Nat) (w : World) (hn : n ≤ 9223372036854775807) (hl : left ≤ 1048576) :
    Calls Try.prog 5 #[.slice A n c, .int .i64 left] w (Szd w left fun r => r + n ≤ left) := by
  go_enter Try.func5, Try.ntmps5
  by_cases h : n ≤ left
  · go_wp2
    go_ret
    exact ⟨Below.refl _ _, .inr ⟨left - n, by go_num, by omega, by omega⟩⟩
  · go_wp2
    go_ret
    exact ⟨Below.refl _ _, .inl rfl⟩

theorem info_arc : (Try.prog.info? 52).map (fun i => (i.zero, i.size, i.bytes)) = some (some (.agg #[.int .i64 0, .int .i64 0]), 2, 16) := by kernel_rfl

theorem toArc_any (a b : Int) (w : World) : Calls Try.prog 27 #[.agg #[.int .i64 a, .int .i64 b]] w fun e w' => e = .returned (.agg #[.int .i64 a, .int .i64 b]) ∧ Below w.heap.size w w' := by
  go_enter Try.func27, Try.ntmps27
  go_wp2_with fail
  have hB : Below w.heap.size w ((w.alloc (.cells #[.int .i64 a, .int .i64 b] 54)).alloc (.cells #[.int .i64 a, .int .i64 b] 52)) := below_trans' (below_alloc0 _ _) (below_alloc0 _ _)
  have hh : ((w.alloc (.cells #[.int .i64 a, .int .i64 b] 54)).alloc (.cells #[.int .i64 a, .int .i64 b] 52)).heap[w.heap.size + 1]? = some (.cells #[.int .i64 a, .int .i64 b] 52) := by
    have := heap_alloc_new (w.alloc (.cells #[.int .i64 a, .int .i64 b] 54)) (.cells #[.int .i64 a, .int .i64 b] 52)
    simpa using this
  have hfin := (Below.heap_alloc ((w.alloc (.cells #[.int .i64 a, .int .i64 b] 54)).alloc (.cells #[.int .i64 a, .int .i64 b] 52)) (.cells #[.int .i64 a, .int .i64 b] 52) (w.heap.size + 1) (by simp)).trans hh
  refine bodyPost_ret (results_cell_row rfl _ _ _ _ _ _ _ rfl hfin Try.underlying52 rfl (by kernel_rfl)) rfl ?_
  exact ⟨rfl, below_trans' hB (below_alloc0 _ _)⟩

section
variable (w : World) {ops : Array Oper} {rest : List Oper} {o : Oper} {a : Act} {Q : Exit → Act → World → Prop}
/-- make([]Arc, n). -/
theorem make_arcs (hg : o.guard = none) (l c : Operand) (hop : o.op = Op.makeSlice 26 l c) (n : Nat) (hl : a.eval l = .int .i64 (n : Int)) (hc : a.eval c = .int .i64 (n : Int)) (hn : n ≤ 1048576)
    (hK : ∀ w' xs, w'.ownsRow w.heap.size 52 2 (.slice (some ⟨w.heap.size, 0, none⟩) n n) n xs → Below w.heap.size w w' →
      wpList Try.prog ops Q rest (a.put o.dst (.slice (some ⟨w.heap.size, 0, none⟩) n n)) w') : wpList Try.prog ops Q (o :: rest) a w := by
  obtain ⟨i0, hi, hz0, hz1, hz2⟩ := info_parts info_arc
  refine wpList_make_full w hg l c _ hop w.heap.size _ i0 _ 2 Try.underlying26 hi hz0 hz1 _ _ _ _ n hl hc rfl rfl (by rw [hz2]; omega) (by unfold maxLen; omega) (Nat.le_refl _) ?_
  intro w' h1 h2
  exact hK w' _ h1 ((Below.refl _ _).grown h2 (Nat.le_refl _) (by simp))
end

set_option maxHeartbeats 1000000 in
theorem toArcS_any {B : Nat} (A : Option Addr) (c : Nat) (es : List (Int × Int)) (w : World) (hk : Rd w B A (arcCells es)) (hn : es.length ≤ 1048576) :
    Calls Try.prog 7 #[.slice A es.length c] w (NewRow w 52 2 es.length (arcCells es)) := by
  have hk0 := hk.full
  clear hk
  go_enter Try.func7, Try.ntmps7
  go_wp2_with (at_make; refine make_arcs _ rfl _ _ rfl es.length rfl rfl hn ?_; intro w1 xs0 hown hb)
  go_loopw [4] (fun i wr => ∃ (k : Nat) (ys : List Value) (cs : Nat → List Value), k ≤ es.length ∧ i = .int .i64 k ∧ wr.ownsRow w.heap.size 52 2 (.slice (some ⟨w.heap.size, 0, none⟩) es.length es.length) es.length ys ∧
    RowsAt ys 2 cs k ∧ (∀ i (h : i < es.length), i < k → cs i = [iv es[i].1, iv es[i].2]) ∧ Below w.heap.size w wr ∧ w.heap.size + 1 ≤ wr.heap.size) (fun i _ => es.length - (intOf i).toNat)
  case atStart => exact ⟨0, _, fun _ => [], Nat.zero_le _, rfl, hown, RowsAt.zero _ _ _, fun i _ hi => by omega, hb, (hown.lt _ rfl).2⟩
  case round =>
    obtain ⟨k, ys, cs, hk, rfl, ho, hag, htm, hbr, hsz⟩ := hrel
    clear hown hb
    have HT := Lib.hid htm
    have HA := Lib.hid hag
    clear htm hag
    by_cases hlt : k < es.length
    · have hk' := hk0.below hbr
      obtain ⟨ad, rfl, hbl, k0, k1⟩ := hk'.arc hlt
      go_wp2_with fail
      refine (toArc_any _ _ _).mono ?_
      rintro e w2 ⟨rfl, hb2⟩
      have ho2 := own_below ho hb2
      obtain ⟨u0, hu0⟩ := own_has ho2 (j := k * 2 + 0) (by omega)
      obtain ⟨u1, hu1⟩ := own_has ho2 (j := k * 2 + 1) (by omega)
      have hf0 := ho2.frozenAt (k * 2 + 0)
      have hf1 := ho2.frozenAt (k * 2 + 1)
      rw [Nat.add_zero] at hu0 hf0
      go_wp2_with fail
      obtain ⟨s1, s2⟩ := setL_own [.int .i64 es[k].1, .int .i64 es[k].2] w2 ys (k * 2) ho2
      have s3 := s2.size
      have s4 := hb2.size
      go_roundw
      case rel =>
        refine ⟨k + 1, _, _, by omega, by go_num, s1, HA.out.put _ rfl ho2.1 hlt, ?_, (below_trans' hbr hb2).grown s2 (Nat.le_trans hbr.size s4) (fun k hk => by cases hk; exact Nat.le_refl _), Nat.le_trans (Nat.le_trans hsz s4) s3⟩
        intro i h hi
        by_cases e : i = k
        · subst e
          rw [if_pos rfl]
          rfl
        · rw [if_neg e]
          exact HT.out i h (by omega)
      case measure => simp [intOf]; omega
    · go_wp2
      go_ret
      obtain rfl : k = es.length := by omega
      have e := arcCells_of ho.1 HA.out fun i hi => HT.out i hi hi
      subst e
      exact ⟨_, _, rfl, ho, hbr⟩

theorem eqArc_any (a b : Int) (w : World) : Calls Try.prog 31 #[.agg #[.int .i64 a, .int .i64 b], .agg #[.int .i64 a, .int .i64 b]] w (Yes w) := by
  have e1 : (a != a) = false := by simp
  have e2 : (b != b) = false := by simp
  go_enter Try.func31, Try.ntmps31
  go_wp2_with fail
  go_ret
  exact ⟨rfl, below_trans' (below_alloc0 _ _) (below_alloc0 _ _)⟩

theorem eqArcS_any {B B' : Nat} (A A' : Option Addr) (c d : Nat) (es : List (Int × Int)) (w : World) (hk : Rd w B A (arcCells es)) (hj : Rd w B' A' (arcCells es)) (hn : es.length ≤ 1048576) :
    Calls Try.prog 10 #[.slice A es.length c, .slice A' es.length d] w (Yes w) := by
  have hk0 := hk.full
  have hj0 := hj.full
  clear hk hj
  have hne : ((es.length : Int) != es.length) = false := by simp
  go_enter Try.func10, Try.ntmps10
  go_wp2
  go_loopw [5] (fun i wr => ∃ k : Nat, k ≤ es.length ∧ i = .int .i64 k ∧ Below w.heap.size w wr) (fun i _ => es.length - (intOf i).toNat)
  case atStart => exact ⟨0, Nat.zero_le _, rfl, Below.refl _ _⟩
  case round =>
    obtain ⟨k, hk, rfl, hbr⟩ := hrel
    by_cases hlt : k < es.length
    · have hk' := hk0.below hbr
      have hj' := hj0.below hbr
      obtain ⟨ad, rfl, hbl, k0, k1⟩ := hk'.arc hlt
      obtain ⟨bd, rfl, hbl2, l0, l1⟩ := hj'.arc hlt
      have z1 : (0 : Int) ≤ (k : Int) := by omega
      have z2 : (k : Int) < (es.length : Int) := by omega
      go_wp2_with fail
      go_region_held3 (fun w' => Below wr.heap.size wr w' ∧ w'.cell? (ad.add (k * 2)) = some (.int .i64 es[k].1) ∧ w'.cell? ⟨(ad.add (k * 2)).block, (ad.add (k * 2)).off + 1, none⟩ = some (.int .i64 es[k].2) ∧
          w'.cell? (bd.add (k * 2)) = some (.int .i64 es[k].1) ∧ w'.cell? ⟨(bd.add (k * 2)).block, (bd.add (k * 2)).off + 1, none⟩ = some (.int .i64 es[k].2))
        (first | exact ⟨(Below.refl _ _).drew, k0, k1, l0, l1⟩ | assumption | (go_split_ands; refine ⟨below_trans' (by assumption) hb1, ?_, ?_, ?_, ?_⟩ <;> exact cell_below hb1 (by assumption)))
        (first | (go_at_call 31; refine (eqArc_any _ _ _).mono ?_; rintro e w1 ⟨rfl, hb1⟩))
      rename_i W1 _ hS
      have hbS := hS.1
      clear hS k0 k1 l0 l1
      go_wp2_with fail
      go_roundw
      case rel => exact ⟨k + 1, by omega, by go_num, below_trans' hbr hbS⟩
      case measure => simp [intOf]; omega
    · go_wp2
      go_ret
      exact ⟨rfl, hbr⟩
theorem upFrom_even (k n j : Nat) (hj : j < n) : ((upFrom k (n * 2)).map iv)[j * 2]? = some (.int .i64 ((k + j * 2 : Nat) : Int)) := by
  rw [List.getElem?_map, upFrom_get k (n * 2) (j * 2) (by omega)]; rfl
theorem upFrom_odd (k n j : Nat) (hj : j < n) : ((upFrom k (n * 2)).map iv)[j * 2 + 1]? = some (.int .i64 ((k + (j * 2 + 1) : Nat) : Int)) := by
  rw [List.getElem?_map, upFrom_get k (n * 2) (j * 2 + 1) (by omega)]; rfl
set_option maxHeartbeats 1000000 in
theorem markArcS_any {base : Nat} (A : Option Addr) (c n k : Nat) (xs : List Value) (w : World) (ho : w.ownsRow base 52 2 (.slice A n c) n xs) (hn : n ≤ 1048576) (hk : k ≤ 1000000000) :
    Calls Try.prog 11 #[.slice A n c, .int .i64 k] w fun e w' => e = .returned (.int .i64 ((k + n * 2 : Nat) : Int)) ∧ w'.ownsRow base 52 2 (.slice A n c) n ((upFrom k (n * 2)).map iv) ∧ w.grownBy w' (Value.slice A n c).ownBlock := by
  rcases Nat.eq_zero_or_pos n with h0 | hp
  · subst h0
    go_enter Try.func11, Try.ntmps11
    go_wp2
    go_loopw [1, 5] (fun q i wr => q = .int .i64 (k : Int) ∧ i = .int .i64 0 ∧ wr = w) (fun _ _ _ => 0)
    case atStart => exact ⟨rfl, rfl, rfl⟩
    case round =>
      obtain ⟨rfl, rfl, rfl⟩ := hrel
      go_wp2
      go_ret
      have : xs = [] := List.eq_nil_of_length_eq_zero (by rw [ho.1])
      subst this
      exact ⟨rfl, ho, World.grownBy.refl _ _⟩
  · obtain ⟨g, rfl⟩ : ∃ g, A = some ⟨g, 0, none⟩ := by
      rcases ho.2 with ⟨e, h0⟩ | ⟨g, cap, cur, e, _⟩
      · omega
      · injection e with e; exact ⟨g, e⟩
    go_enter Try.func11, Try.ntmps11
    go_wp2
    go_loopw [1, 5] (fun q i wr => ∃ (j : Nat) (ys : List Value), j ≤ n ∧ i = .int .i64 j ∧ q = .int .i64 ((k + j * 2 : Nat) : Int) ∧ (∀ m, m < j * 2 → ys[m]? = ((upFrom k (n * 2)).map iv)[m]?) ∧ wr.ownsRow base 52 2 (.slice (some ⟨g, 0, none⟩) n c) n ys ∧ w.grownBy wr (some g)) (fun _ i _ => n - (intOf i).toNat)
    case atStart => exact ⟨0, xs, Nat.zero_le _, rfl, rfl, by simp, ho, World.grownBy.refl _ _⟩
    case round =>
      obtain ⟨j, ys, hj, rfl, rfl, hag, ho', hg⟩ := hrel
      have HA := Lib.hid hag
      clear hag
      by_cases hlt : j < n
      · obtain ⟨u, hu⟩ := own_has ho' (j := j * 2) (by omega)
        have hf := ho'.frozenAt (j * 2)
        obtain ⟨s1, s2⟩ := ho'.stored (j * 2) (iv ((k + j * 2 : Nat) : Int))
        obtain ⟨u1, hu1⟩ := own_has s1 (j := j * 2 + 1) (by omega)
        have hf1 := s1.frozenAt (j * 2 + 1)
        have e1 : ((k + j * 2 : Nat) : Int) + 1 = ((k + (j * 2 + 1) : Nat) : Int) := by omega
        obtain ⟨t1, t2⟩ := s1.stored (j * 2 + 1) (iv ((k + (j * 2 + 1) : Nat) : Int))
        have hlen : ys.length = n * 2 := ho'.1
        have HL := Lib.hid hlen
        clear hlen
        obtain ⟨v1, hv1⟩ := own_has ho' (j := j * 2 + 1) (by omega)
        have hg1 := ho'.frozenAt (j * 2 + 1)
        go_wp2
        go_roundw
        case rel =>
          refine ⟨j + 1, _, by omega, by go_num, by go_num, ?_, t1, (hg.trans s2).trans t2⟩
          have h1 := set_agree (ys := ys) (xs := (upFrom k (n * 2)).map iv) (k := j * 2) (x := iv ((k + j * 2 : Nat) : Int)) (by rw [HL.out]; simp [upFrom_length]) (upFrom_even k n j hlt) HA.out
          have h2 := set_agree (ys := ys.set (j * 2) (iv ((k + j * 2 : Nat) : Int))) (xs := (upFrom k (n * 2)).map iv) (k := j * 2 + 1) (x := iv ((k + (j * 2 + 1) : Nat) : Int)) (by rw [List.length_set, HL.out]; simp [upFrom_length]) (upFrom_odd k n j hlt) h1
          rw [show (j + 1) * 2 = j * 2 + 1 + 1 from by omega]
          exact h2
        case measure => simp [intOf]; omega
      · go_wp2
        go_ret
        obtain rfl : j = n := by omega
        have e : ys = (upFrom k (j * 2)).map iv := eq_of_agree (by rw [ho'.1]; simp [upFrom_length]) (by simpa [upFrom_length] using HA.out)
        subst e
        exact ⟨rfl, ho', hg⟩
theorem cells_larc : Try.prog.cellsOf 54 = 2 := by kernel_rfl
section
variable {H : Type} {enc : TypeId × Value → H} {W : World} {sp : Nat → Bool} {held : Bool}
set_option maxRecDepth 100000 in
theorem arc_open {fuel : Nat} {cs : List Value} {x : DataW H × List MemPlace} (h : DataW.trod enc Try.prog W 0 sp held fuel 54 cs = some x) :
    ∃ y : Int × Int, cs = [iv y.1, iv y.2] ∧ Fits y.1 ∧ Fits y.2 := by
  obtain ⟨xs, n, rfl, _, hcl, hxl, hf⟩ := DataW.trod_struct Try.underlying54 h
  rw [cells_larc] at hcl
  match cs, hcl with
  | [c0, c1], _ =>
    have f0 : DataW.trod enc Try.prog W 0 sp held n 3 (([c0, c1].drop 0).take (Try.prog.cellsOf 3)) = xs[0]? := hf 0 _ rfl
    have f1 : DataW.trod enc Try.prog W 0 sp held n 3 (([c0, c1].drop 1).take (Try.prog.cellsOf 3)) = xs[1]? := hf 1 _ rfl
    have hxl2 : xs.length = 2 := hxl
    rw [cells_int, List.getElem?_eq_getElem (by omega)] at f0 f1
    simp only [List.drop_zero, List.drop_succ_cons, List.take_succ_cons, List.take_zero] at f0 f1
    obtain ⟨o, e0, _, w0⟩ := DataW.trod_int Try.underlying3 f0
    obtain ⟨a, e1, _, w1⟩ := DataW.trod_int Try.underlying3 f1
    injection e0 with e0
    injection e1 with e1
    subst e0 e1
    exact ⟨(o, a), rfl, fits_of_wf w0, fits_of_wf w1⟩
theorem arcs_open {fuel : Nat} {cs : List Value} {x : DataW H × List MemPlace} (h : DataW.trod enc Try.prog W 0 sp held fuel 22 cs = some x) :
    ∃ (A : Option Addr) (c : Nat) (es : List (Int × Int)), cs = [.slice A es.length c] ∧ Rd W W.heap.size A (arcCells es) ∧ es.length ≤ 9223372036854775807 := by
  obtain ⟨A, c, len, rfl, hlc, hlen, hel⟩ := open_elems Try.underlying22 cells_larc h
  obtain ⟨ts, htl, hts⟩ := list_of (p := fun i (y : Int × Int) => Row W W.heap.size A (i * 2) [iv y.1, iv y.2]) (n := len) fun i hi => by
    obtain ⟨cs', f, y, hf, hr, ht⟩ := hel i hi
    obtain ⟨t, e, _⟩ := arc_open ht
    rw [e] at hr
    exact ⟨t, hr⟩
  subst htl
  refine ⟨A, c, ts, rfl, ?_, hlen⟩
  intro m u hu
  have hm : m < ts.length * 2 := by rw [← arcCells_len]; exact (List.getElem?_eq_some_iff.1 hu).1
  have hi : m / 2 < ts.length := by omega
  have hr := hts _ hi
  rcases Nat.mod_two_eq_zero_or_one m with e | e
  · have em : m = m / 2 * 2 + 0 := by omega
    rw [em, Nat.add_zero, arcCells_keep ts _ hi] at hu
    obtain ⟨ad, e1, e2, e3⟩ := hr 0 u hu
    exact ⟨ad, e1, e2, by rw [em]; exact e3⟩
  · have em : m = m / 2 * 2 + 1 := by omega
    rw [em, arcCells_gen ts _ hi] at hu
    obtain ⟨ad, e1, e2, e3⟩ := hr 1 u hu
    exact ⟨ad, e1, e2, by rw [em]; exact e3⟩
end
end Go.Proofs.Ytkgoajnnkimkaaa
