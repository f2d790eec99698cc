/- Law helpers over lists of touches. -/
import Derived.Test.YtfecdgjnncpcjaaGreatG9
import Derived.Test.YtfecdgjnncpcjaaGreatB3
set_option linter.unusedSimpArgs false
set_option linter.unusedVariables false
namespace Go.Proofs.YtfecdgjnncpcjaaGreat
open Go.ChangeShapes Go.WideShapes Go.ChangeAt Go.RowKit
theorem atT_len12 (k : Cd) (x : Int) : (atT k x).length ≤ 12 := by
  cases h : (codeOkI k && (decide (0 ≤ x) && decide (x < k.ins.length)))
  · rw [atT_no h]; simp
  · have h1 := atT_len k x
    have h2 := (right_of (Bool.and_eq_true_iff.1 h).1).globals
    omega
theorem tCells_get : ∀ (ts : List Tt) (i : Nat) (h : i < ts.length), (tCells ts)[i * 4]? = some (.int .i64 (ts[i].a : Int)) ∧ (tCells ts)[i * 4 + 1]? = some (.int .i64 (ts[i].g : Int)) ∧ (tCells ts)[i * 4 + 2]? = some (.bool ts[i].w) ∧ (tCells ts)[i * 4 + 3]? = some (.int .i64 (ts[i].h : Int))
  | t :: r, 0, _ => ⟨rfl, rfl, rfl, rfl⟩
  | t :: r, i + 1, h => by
    obtain ⟨h0, h1, h2, h3⟩ := tCells_get r i (by simpa using h)
    rw [show (i + 1) * 4 = i * 4 + 1 + 1 + 1 + 1 from by omega]
    refine ⟨by simpa [tCells] using h0, ?_, ?_, ?_⟩
    · rw [show i * 4 + 1 + 1 + 1 + 1 + 1 = (i * 4 + 1) + 1 + 1 + 1 + 1 from by omega]; simpa [tCells] using h1
    · rw [show i * 4 + 1 + 1 + 1 + 1 + 2 = (i * 4 + 2) + 1 + 1 + 1 + 1 from by omega]; simpa [tCells] using h2
    · rw [show i * 4 + 1 + 1 + 1 + 1 + 3 = (i * 4 + 3) + 1 + 1 + 1 + 1 from by omega]; simpa [tCells] using h3
theorem Rd.touch {w : World} {B : Nat} {A : Option Addr} {ts : List Tt} (h : Rd w B A (tCells ts)) {i : Nat} (hi : i < ts.length) : ∃ ad, A = some ad ∧ (ad.add (i * 4)).block < B ∧
    w.cell? (ad.add (i * 4)) = some (.int .i64 (ts[i].a : Int)) ∧ w.cell? ⟨(ad.add (i * 4)).block, (ad.add (i * 4)).off + 1, none⟩ = some (.int .i64 (ts[i].g : Int)) ∧
    w.cell? ⟨(ad.add (i * 4)).block, (ad.add (i * 4)).off + 2, none⟩ = some (.bool ts[i].w) ∧ w.cell? ⟨(ad.add (i * 4)).block, (ad.add (i * 4)).off + 3, none⟩ = some (.int .i64 (ts[i].h : Int)) := by
  obtain ⟨h0, h1, h2, h3⟩ := tCells_get ts i hi
  obtain ⟨ad, rfl, hb, c0⟩ := h _ _ h0
  obtain ⟨ad', e', _, c1⟩ := h _ _ h1
  cases e'
  obtain ⟨ad', e', _, c2⟩ := h _ _ h2
  cases e'
  obtain ⟨ad', e', _, c3⟩ := h _ _ h3
  cases e'
  rw [add_pos_eq _ _ 1 (by omega)] at c1
  rw [add_pos_eq _ _ 2 (by omega)] at c2
  rw [add_pos_eq _ _ 3 (by omega)] at c3
  exact ⟨ad, rfl, by rw [block_of_add]; exact hb, c0, c1, c2, c3⟩
theorem eqTouch_any (a g : Int) (b : Bool) (h : Int) (w : World) : Calls Tryz.prog 65 #[.agg #[.int .i64 a, .int .i64 g, .bool b, .int .i64 h], .agg #[.int .i64 a, .int .i64 g, .bool b, .int .i64 h]] w (Yes w) := by
  have e1 : (a != a) = false := by simp
  have e2 : (g != g) = false := by simp
  have e3 : (h != h) = false := by simp
  have e4 : (b != b) = false := by simp
  go_enter Tryz.func65, Tryz.ntmps65
  go_wp2_with fail
  go_ret
  exact ⟨rfl, below_trans' (below_alloc0 _ _) (below_alloc0 _ _)⟩
set_option maxHeartbeats 2000000 in
theorem eqTs_same {B B' : Nat} (A A' : Option Addr) (c d : Nat) (es : List Tt) (w : World) (hk : Rd w B A (tCells es)) (hj : Rd w B' A' (tCells es)) (hn : es.length ≤ 1048576) :
    Calls Tryz.prog 33 #[.slice A es.length c, .slice A' es.length d] w fun e w' => e = .returned (.bool true) ∧ Below w.heap.size w w' := by
  have hk0 := hk.full
  have hj0 := hj.full
  clear hk hj
  have hne : ((es.length : Int) != es.length) = false := by simp
  go_enter Tryz.func33, Tryz.ntmps33
  go_wp2
  go_loopw [5] (fun i wr => ∃ k : Nat, k ≤ es.length ∧ i = .int .i64 k ∧ Below w.heap.size w wr) (fun i _ => es.length - (intOf i).toNat)
  case atStart => exact ⟨0, Nat.zero_le _, rfl, Below.refl _ _⟩
  case round =>
    obtain ⟨k, hk, rfl, hbr⟩ := hrel
    by_cases hlt : k < es.length
    · have hk' := hk0.below hbr
      have hj' := hj0.below hbr
      obtain ⟨ad, rfl, hbl, k0, k1, k2, k3⟩ := hk'.touch hlt
      obtain ⟨bd, rfl, hbl2, l0, l1, l2, l3⟩ := hj'.touch hlt
      have z1 : (0 : Int) ≤ (k : Int) := by omega
      have z2 : (k : Int) < (es.length : Int) := by omega
      go_wp2_with fail
      go_region_held3 (fun w' => Below wr.heap.size wr w' ∧ w'.cell? (ad.add (k * 4)) = some (.int .i64 (es[k].a : Int)) ∧ w'.cell? ⟨(ad.add (k * 4)).block, (ad.add (k * 4)).off + 1, none⟩ = some (.int .i64 (es[k].g : Int)) ∧
          w'.cell? ⟨(ad.add (k * 4)).block, (ad.add (k * 4)).off + 2, none⟩ = some (.bool es[k].w) ∧ w'.cell? ⟨(ad.add (k * 4)).block, (ad.add (k * 4)).off + 3, none⟩ = some (.int .i64 (es[k].h : Int)) ∧
          w'.cell? (bd.add (k * 4)) = some (.int .i64 (es[k].a : Int)) ∧ w'.cell? ⟨(bd.add (k * 4)).block, (bd.add (k * 4)).off + 1, none⟩ = some (.int .i64 (es[k].g : Int)) ∧
          w'.cell? ⟨(bd.add (k * 4)).block, (bd.add (k * 4)).off + 2, none⟩ = some (.bool es[k].w) ∧ w'.cell? ⟨(bd.add (k * 4)).block, (bd.add (k * 4)).off + 3, none⟩ = some (.int .i64 (es[k].h : Int)))
        (first | exact ⟨(Below.refl _ _).drew, k0, k1, k2, k3, l0, l1, l2, l3⟩ | assumption | (go_split_ands; refine ⟨below_trans' (by assumption) hb1, ?_, ?_, ?_, ?_, ?_, ?_, ?_, ?_⟩ <;> exact cell_below hb1 (by assumption)))
        (first | (go_at_call 65; refine (eqTouch_any _ _ _ _ _).mono ?_; rintro e w1 ⟨rfl, hb1⟩))
      rename_i W1 _ hS
      have hbS := hS.1
      clear hS k0 k1 k2 k3 l0 l1 l2 l3
      go_wp2_with fail
      go_roundw
      case rel => exact ⟨k + 1, by omega, by go_num, below_trans' hbr hbS⟩
      case measure => simp [intOf]; omega
    · go_wp2
      go_ret
      exact ⟨rfl, hbr⟩
/-- The touches that are laid as marks. -/
def tk (k j : Nat) : Tt := ⟨k + j * 4, k + (j * 4 + 1), decide ((k + (j * 4 + 2)) % 3 = 0), k + (j * 4 + 3)⟩
def upT (k n : Nat) : List Value := tCells ((List.range n).map (tk k))
theorem upT_len (k n : Nat) : (upT k n).length = n * 4 := by simp [upT, tCells_len]
theorem upT_get (k n j : Nat) (hj : j < n) : (upT k n)[j * 4]? = some (.int .i64 ((k + j * 4 : Nat) : Int)) ∧ (upT k n)[j * 4 + 1]? = some (.int .i64 ((k + (j * 4 + 1) : Nat) : Int)) ∧ (upT k n)[j * 4 + 2]? = some (.bool (decide ((k + (j * 4 + 2)) % 3 = 0))) ∧ (upT k n)[j * 4 + 3]? = some (.int .i64 ((k + (j * 4 + 3) : Nat) : Int)) := by
  have h := tCells_get ((List.range n).map (tk k)) j (by simpa using hj)
  simp only [List.getElem_map, List.getElem_range] at h
  exact h
theorem mod_three2 (k j : Nat) : (((k : Int) + (j : Int) * 4 + 1 + 1) % 3 == 0) = decide ((k + (j * 4 + 2)) % 3 = 0) := by
  rw [Bool.eq_iff_iff]
  simp only [beq_iff_eq, decide_eq_true_eq]
  omega
set_option maxHeartbeats 2000000 in
theorem markTouchS_any {base : Nat} (A : Option Addr) (c n k : Nat) (xs : List Value) (w : World) (ho : w.ownsRow base 35 4 (.slice A n c) n xs) (hn : n ≤ 1048576) (hk : k ≤ 1048576) :
    Calls Tryz.prog 34 #[.slice A n c, .int .i64 k] w fun e w' => e = .returned (.int .i64 ((k + n * 4 : Nat) : Int)) ∧ w'.ownsRow base 35 4 (.slice A n c) n (upT k n) ∧ w.grownBy w' (Value.slice A n c).ownBlock := by
  rcases Nat.eq_zero_or_pos n with h0 | hp
  · subst h0
    go_enter Tryz.func34, Tryz.ntmps34
    go_wp2
    go_loopw [1, 5] (fun q i wr => q = .int .i64 (k : Int) ∧ i = .int .i64 0 ∧ wr = w) (fun _ _ _ => 0)
    case atStart => exact ⟨rfl, rfl, rfl⟩
    case round =>
      obtain ⟨rfl, rfl, rfl⟩ := hrel
      go_wp2
      go_ret
      have : xs = [] := List.eq_nil_of_length_eq_zero (by rw [ho.1])
      subst this
      exact ⟨rfl, ho, World.grownBy.refl _ _⟩
  · obtain ⟨g, rfl⟩ : ∃ g, A = some ⟨g, 0, none⟩ := by
      rcases ho.2 with ⟨e, h0⟩ | ⟨g, cap, cur, e, _⟩
      · omega
      · injection e with e; exact ⟨g, e⟩
    go_enter Tryz.func34, Tryz.ntmps34
    go_wp2
    go_loopw [1, 5] (fun q i wr => ∃ (j : Nat) (ys : List Value), j ≤ n ∧ i = .int .i64 j ∧ q = .int .i64 ((k + j * 4 : Nat) : Int) ∧ (∀ m, m < j * 4 → ys[m]? = (upT k n)[m]?) ∧ wr.ownsRow base 35 4 (.slice (some ⟨g, 0, none⟩) n c) n ys ∧ w.grownBy wr (some g)) (fun _ i _ => n - (intOf i).toNat)
    case atStart => exact ⟨0, xs, Nat.zero_le _, rfl, rfl, by simp, ho, World.grownBy.refl _ _⟩
    case round =>
      obtain ⟨j, ys, hj, rfl, rfl, hag, ho', hg⟩ := hrel
      have HA := Lib.hid hag
      clear hag
      by_cases hlt : j < n
      · obtain ⟨u0, hu0⟩ := own_has ho' (j := j * 4) (by omega)
        obtain ⟨u1, hu1⟩ := own_has ho' (j := j * 4 + 1) (by omega)
        obtain ⟨u2, hu2⟩ := own_has ho' (j := j * 4 + 2) (by omega)
        obtain ⟨u3, hu3⟩ := own_has ho' (j := j * 4 + 3) (by omega)
        have hf0 := ho'.frozenAt (j * 4)
        have hf1 := ho'.frozenAt (j * 4 + 1)
        have hf2 := ho'.frozenAt (j * 4 + 2)
        have hf3 := ho'.frozenAt (j * 4 + 3)
        obtain ⟨s1, g1⟩ := ho'.stored (j * 4) (.int .i64 ((k : Int) + (j : Int) * 4))
        obtain ⟨s2, g2⟩ := s1.stored (j * 4 + 1) (.int .i64 ((k : Int) + (j : Int) * 4 + 1))
        obtain ⟨s3, g3⟩ := s2.stored (j * 4 + 2) (.bool (((k : Int) + (j : Int) * 4 + 1 + 1) % 3 == 0))
        obtain ⟨s4, g4⟩ := s3.stored (j * 4 + 3) (.int .i64 ((k : Int) + (j : Int) * 4 + 1 + 1 + 1))
        have hlen : ys.length = n * 4 := ho'.1
        have HL := Lib.hid hlen
        clear hlen
        obtain ⟨w0, w1, w2, w3⟩ := upT_get k n j hlt
        rw [show ((k + j * 4 : Nat) : Int) = (k : Int) + (j : Int) * 4 from by omega] at w0
        rw [show ((k + (j * 4 + 1) : Nat) : Int) = (k : Int) + (j : Int) * 4 + 1 from by omega] at w1
        rw [← mod_three2 k j] at w2
        rw [show ((k + (j * 4 + 3) : Nat) : Int) = (k : Int) + (j : Int) * 4 + 1 + 1 + 1 from by omega] at w3
        have HW0 := Lib.hid w0
        have HW1 := Lib.hid w1
        have HW2 := Lib.hid w2
        have HW3 := Lib.hid w3
        clear w0 w1 w2 w3
        go_wp2
        go_roundw
        case rel =>
          refine ⟨j + 1, _, by omega, by go_num, by go_num, ?_, s4, (((hg.trans g1).trans g2).trans g3).trans g4⟩
          have h1 := set_agree (xs := upT k n) (k := j * 4) (by rw [HL.out, upT_len]) HW0.out HA.out
          have h2 := set_agree (xs := upT k n) (k := j * 4 + 1) (by rw [List.length_set, HL.out, upT_len]) HW1.out h1
          have h3 := set_agree (xs := upT k n) (k := j * 4 + 2) (by rw [List.length_set, List.length_set, HL.out, upT_len]) HW2.out h2
          have h4 := set_agree (xs := upT k n) (k := j * 4 + 3) (by rw [List.length_set, List.length_set, List.length_set, HL.out, upT_len]) HW3.out h3
          rw [show (j + 1) * 4 = j * 4 + 3 + 1 from by omega]
          exact h4
        case measure => simp [intOf]; omega
      · go_wp2
        go_ret
        obtain rfl : j = n := by omega
        have e : ys = upT k j := eq_of_agree (by rw [ho'.1, upT_len]) (by rw [upT_len]; exact HA.out)
        subst e
        exact ⟨rfl, ho', hg⟩
set_option maxHeartbeats 2000000 in
theorem heldTouchS_b {B : Nat} (A : Option Addr) (c n k : Nat) (w : World) (h : Rd w B A (upT k n)) (hn : n ≤ 1048576) (hk : k ≤ 1048576) :
    Calls Tryz.prog 35 #[.slice A n c, .int .i64 k] w fun e w' => e = .returned (.int .i64 ((k + n * 4 : Nat) : Int)) ∧ Below w.heap.size w w' := by
  have h0 := h.full
  clear h
  go_enter Tryz.func35, Tryz.ntmps35
  go_wp2
  go_loopw [1, 5] (fun q i wr => ∃ j : Nat, j ≤ n ∧ i = .int .i64 j ∧ q = .int .i64 ((k + j * 4 : Nat) : Int) ∧ Below w.heap.size w wr) (fun _ i _ => n - (intOf i).toNat)
  case atStart => exact ⟨0, Nat.zero_le _, rfl, rfl, Below.refl _ _⟩
  case round =>
    obtain ⟨j, hj, rfl, rfl, hb⟩ := hrel
    by_cases hlt : j < n
    · obtain ⟨ad, rfl, _, c0, c1, c2, c3⟩ := (show Rd wr w.heap.size A (tCells ((List.range n).map (tk k))) from h0.below hb).touch (i := j) (by simpa using hlt)
      simp only [List.getElem_map, List.getElem_range, tk] at c0 c1 c2 c3
      rw [show ((k + j * 4 : Nat) : Int) = (k : Int) + (j : Int) * 4 from by omega] at c0
      rw [show ((k + (j * 4 + 1) : Nat) : Int) = (k : Int) + (j : Int) * 4 + 1 from by omega] at c1
      rw [← mod_three2 k j] at c2
      rw [show ((k + (j * 4 + 3) : Nat) : Int) = (k : Int) + (j : Int) * 4 + 1 + 1 + 1 from by omega] at c3
      go_wp2
      go_roundw
      case rel => exact ⟨j + 1, by omega, by go_num, by go_num, hb⟩
      case measure => simp [intOf]; omega
    · go_wp2
      go_ret
      obtain rfl : j = n := by omega
      exact ⟨rfl, hb⟩
end Go.Proofs.YtfecdgjnncpcjaaGreat
