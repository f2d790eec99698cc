/- Contract of closure: the sets of what is reached. -/
import Derived.Test.YtkgoajnnkimkaaaK2
import Derived.Test.YtkgoajnnkimkaaaK9
import Derived.Deep.LoopGhost
set_option linter.unusedSimpArgs false
set_option linter.unusedVariables false
namespace Go.Proofs.Ytkgoajnnkimkaaa
open Go.ChangeShapes Go.WideShapes Go.ChangeAt Go.RowKit

def gu (xs : List Nat) (i : Nat) : Nat := (xs[i]?).getD 0
theorem gu_get {xs : List Nat} {i : Nat} (h : i < xs.length) : xs[i] = gu xs i := by simp [gu, h]
theorem gu_set {xs : List Nat} {f : Nat} (h : f < xs.length) (i v : Nat) : gu (xs.set f v) i = if i = f then v else gu xs i := by
  unfold gu
  rw [List.getElem?_set]
  by_cases e : f = i
  · subst e; simp [h]
  · rw [if_neg e, if_neg fun h => e h.symm]
/-- Rows of bits. -/
structure RowsU (n : Nat) (T : Nat → Nat → Bool) (xs : List Nat) : Prop where
  len : xs.length = n
  bit : ∀ i, i < n → ∀ j, (gu xs i).testBit j = (decide (j < n) && T i j)
/-- An arc from i to j. -/
def arcB (es : List (Int × Int)) (i j : Nat) : Bool := es.any fun e => e.1 == (i : Int) && e.2 == (j : Int)
def ArcsIn (n : Nat) (es : List (Int × Int)) : Prop := ∀ e ∈ es, 0 ≤ e.1 ∧ e.1 < (n : Int) ∧ 0 ≤ e.2 ∧ e.2 < (n : Int)
section
variable {n : Nat} {T : Nat → Nat → Bool} {xs : List Nat} {es : List (Int × Int)}
theorem lt_of_bits {x : Nat} (h : ∀ j, n ≤ j → x.testBit j = false) : x < 2 ^ n := Nat.lt_pow_two_of_testBit x h
theorem RowsU.lt (h : RowsU n T xs) (hn : n ≤ 60) {i : Nat} (hi : i < n) : gu xs i < 1152921504606846976 := by
  have h1 : gu xs i < 2 ^ n := lt_of_bits fun j hj => by rw [h.bit i hi, decide_eq_false (by omega)]; rfl
  exact Nat.lt_of_lt_of_le h1 (show 2 ^ n ≤ 2 ^ 60 from Nat.pow_le_pow_right (by omega) hn)
theorem RowsU.start (n : Nat) : RowsU n (arcB (es.take 0)) (List.replicate n 0) := by
  refine ⟨by simp, fun i hi j => ?_⟩
  have : gu (List.replicate n 0) i = 0 := by simp [gu, hi]
  rw [this]
  simp [arcB]
theorem arcB_snoc (j i b : Nat) (h : j < es.length) : arcB (es.take (j + 1)) i b = (arcB (es.take j) i b || (es[j].1 == (i : Int) && es[j].2 == (b : Int))) := by
  unfold arcB
  rw [List.take_succ_eq_append_getElem h, List.any_append]
  simp
theorem RowsU.arc {j f t : Nat} (h : RowsU n (arcB (es.take j)) xs) (hj : j < es.length) (ef : es[j].1 = f) (et : es[j].2 = t) (hf : f < n) (ht : t < n) : RowsU n (arcB (es.take (j + 1))) (xs.set f (gu xs f ||| 2 ^ t)) := by
  refine ⟨by simp [h.len], fun i hi b => ?_⟩
  rw [gu_set (by rw [h.len]; exact hf), arcB_snoc j i b hj, ef, et]
  by_cases e : i = f
  · subst e
    rw [if_pos rfl, Nat.testBit_or, h.bit i hi, Nat.testBit_two_pow]
    by_cases e2 : t = b
    · subst e2; simp [ht]
    · have : ((t : Int) == (b : Int)) = false := by simp; omega
      simp [e2, this]
  · rw [if_neg e, h.bit i hi]
    have : ((f : Int) == (i : Int)) = false := by simp; omega
    simp [this]
theorem RowsU.full (h : RowsU n (arcB (es.take es.length)) xs) : RowsU n (arcB es) xs := by rwa [List.take_length] at h
/-- The rows up to i have their way through k. -/
def midW (R : Nat → Nat → Bool) (k i x j : Nat) : Bool := if x < i then wsh R (k + 1) x j else wsh R k x j
variable {R : Nat → Nat → Bool} {k i : Nat}
theorem RowsU.congr {T' : Nat → Nat → Bool} (h : RowsU n T xs) (e : ∀ i j, i < n → j < n → T i j = T' i j) : RowsU n T' xs := by
  refine ⟨h.len, fun i hi j => ?_⟩
  rw [h.bit i hi]
  by_cases hj : j < n
  · rw [e i j hi hj]
  · simp [hj]
theorem mid_start (h : RowsU n (wsh R k) xs) : RowsU n (midW R k 0) xs := h.congr fun i j _ _ => by simp [midW]
theorem mid_end (h : RowsU n (midW R k n) xs) : RowsU n (wsh R (k + 1)) xs := h.congr fun i j hi _ => by simp [midW, hi]
theorem mid_test (h : RowsU n (midW R k i) xs) (hi : i < n) (hk : k < n) : (gu xs i).testBit k = wsh R k i k := by
  rw [h.bit i hi]; simp [midW, hk]
theorem mid_skip (h : RowsU n (midW R k i) xs) (hi : i < n) (hk : k < n) (hb : wsh R k i k = false) : RowsU n (midW R k (i + 1)) xs := h.congr fun x j _ _ => by
  unfold midW
  by_cases e : x < i
  · rw [if_pos e, if_pos (by omega)]
  · rw [if_neg e]
    by_cases e2 : x = i
    · subst e2; rw [if_pos (by omega), wsh, hb]; simp
    · rw [if_neg (by omega)]
theorem mid_hit (h : RowsU n (midW R k i) xs) (hi : i < n) (hk : k < n) (hb : wsh R k i k = true) : RowsU n (midW R k (i + 1)) (xs.set i (gu xs i ||| gu xs k)) := by
  refine ⟨by simp [h.len], fun x hx j => ?_⟩
  rw [gu_set (by rw [h.len]; exact hi)]
  by_cases e : x = i
  · subst e
    rw [if_pos rfl, Nat.testBit_or, h.bit x hx, h.bit k hk]
    have e1 : midW R k x x j = wsh R k x j := by simp [midW]
    have e2 : midW R k x k j = wsh R k k j := by
      unfold midW
      split
      · exact wsh_row R k j
      · rfl
    have e3 : midW R k (x + 1) x j = (wsh R k x j || wsh R k k j) := by simp [midW, wsh, hb]
    rw [e1, e2, e3]
    cases decide (j < n) <;> simp
  · rw [if_neg e, h.bit x hx]
    congr 1
    unfold midW
    by_cases e2 : x < i
    · rw [if_pos e2, if_pos (by omega)]
    · rw [if_neg e2, if_neg (by omega)]
end

set_option maxRecDepth 100000 in
set_option maxHeartbeats 8000000 in
theorem closure_any {B : Nat} (n : Nat) (A : Option Addr) (c : Nat) (es : List (Int × Int)) (w : World) (hn : n ≤ 60) (he : Rd w B A (arcCells es)) (hl : es.length ≤ 2000) (hin : ArcsIn n es) :
    Calls Try.prog 44 #[.int .i64 n, .slice A es.length c] w fun e w' => ∃ xs, RowsU n (wsh (arcB es) n) xs ∧ NewRow w 69 1 n (xs.map uv) e w' := by
  have he0 := he.full
  have HIN := Lib.hid hin
  clear he hin
  go_enter Try.func44, Try.ntmps44
  go_wp2_with (at_make; refine make_u64 _ rfl _ _ rfl n rfl rfl (by omega) ?_; intro w1 hown hb1)
  go_loopg [14] es.length (fun l i wr => ∃ (j : Nat) (xs : List Nat), j ≤ es.length ∧ l = es.length - j ∧ i = .int .i64 j ∧ RowsU n (arcB (es.take j)) xs ∧ wr.ownsRow w.heap.size 69 1 (.slice (some ⟨w.heap.size, 0, none⟩) n n) n (xs.map uv) ∧ Below w.heap.size w wr)
  case atStart => exact ⟨0, _, by omega, by omega, rfl, RowsU.start n, hown, hb1⟩
  case round =>
    clear hown hb1
    obtain ⟨j, xs, hj, rfl, rfl, hR, ho, hb⟩ := hrel
    have HR := Lib.hid hR
    clear hR
    by_cases hlt : j < es.length
    · obtain ⟨ad, rfl, _, k0, k1⟩ := (he0.below hb).arc hlt
      obtain ⟨f, t, ef, et, hf, ht⟩ : ∃ f t : Nat, es[j].1 = f ∧ es[j].2 = t ∧ f < n ∧ t < n := by
        obtain ⟨h1, h2, h3, h4⟩ := HIN.out _ (List.getElem_mem hlt)
        exact ⟨es[j].1.toNat, es[j].2.toNat, by omega, by omega, by omega, by omega⟩
      rw [ef] at k0
      rw [et] at k1
      have hxl := HR.out.len
      have hfx : f < xs.length := by omega
      obtain ⟨ad1, e1, _, hcf⟩ := (own_rd ho).u64 hfx
      cases e1
      rw [add_mk, gu_get hfx] at hcf
      have hlt60 := HR.out.lt hn hf
      have eor := or_pow_u (gu xs f) t (by omega) (by omega)
      have HN := Lib.hid (HR.out.arc hlt ef et hf ht)
      have HXL := Lib.hid hxl
      have z1 : (0 : Int) ≤ (f : Int) := by omega
      have z2 : (f : Int) < (n : Int) := by omega
      have z3 : (0 : Int) ≤ (t : Int) := by omega
      clear ef et hxl hlt60
      have b0 := box_cell wr #[.int .i64 (f : Int), .int .i64 (t : Int)] 52 0 rfl
      have b1 := box_cell wr #[.int .i64 (f : Int), .int .i64 (t : Int)] 52 1 rfl
      have hbV := below_alloc0 wr (.cells #[.int .i64 (f : Int), .int .i64 (t : Int)] 52)
      go_wp2_with fail
      generalize wr.alloc (.cells #[.int .i64 (f : Int), .int .i64 (t : Int)] 52) = V at *
      have ho := own_below ho hbV
      have fz := ho.frozenAt f
      have hcf := cell_below hbV hcf
      have hbb := below_trans' hb hbV
      clear hbV hb
      go_region
      go_wp2_with fail
      go_roundg (es.length - (j + 1))
      case measure => omega
      case rel =>
        obtain ⟨s1, s2⟩ := ho.stored f (uv (gu xs f ||| 2 ^ t))
        rw [set_map] at s1
        exact ⟨j + 1, _, by omega, rfl, by go_num, HN.out, s1, (hbb.setCell (Nat.le_refl _) _).drew⟩
    · obtain rfl : j = es.length := by omega
      have HR := Lib.hid (show RowsU n (wsh (arcB es) 0) xs from HR.out.full)
      go_wp2_with fail
      clear he0 HIN
      go_loopg [32] n (fun l i wr => ∃ (k : Nat) (xs : List Nat), k ≤ n ∧ l = n - k ∧ i = .int .i64 k ∧ RowsU n (wsh (arcB es) k) xs ∧ wr.ownsRow w.heap.size 69 1 (.slice (some ⟨w.heap.size, 0, none⟩) n n) n (xs.map uv) ∧ Below w.heap.size w wr)
      case atStart => exact ⟨0, xs, by omega, by omega, rfl, HR.out, ho, hb⟩
      case round =>
        clear ho hb HR
        obtain ⟨k, xs, hk, rfl, rfl, hR, ho, hb⟩ := hrel
        have HR := Lib.hid hR
        clear hR
        by_cases hkl : k < n
        · go_wp2_with fail
          go_loopg [37] n (fun l i wr => ∃ (i' : Nat) (xs : List Nat), i' ≤ n ∧ l = n - i' ∧ i = .int .i64 i' ∧ RowsU n (midW (arcB es) k i') xs ∧ wr.ownsRow w.heap.size 69 1 (.slice (some ⟨w.heap.size, 0, none⟩) n n) n (xs.map uv) ∧ Below w.heap.size w wr)
          case atStart => exact ⟨0, xs, by omega, by omega, rfl, mid_start HR.out, ho, hb⟩
          case round =>
            clear ho hb HR
            obtain ⟨i, xs, hi, rfl, rfl, hR, ho, hb⟩ := hrel
            have HR := Lib.hid hR
            clear hR
            by_cases hil : i < n
            · have hxl := HR.out.len
              have hix : i < xs.length := by omega
              have hkx : k < xs.length := by omega
              obtain ⟨ad1, e1, _, hci⟩ := (own_rd ho).u64 hix
              cases e1
              rw [add_mk, gu_get hix] at hci
              obtain ⟨ad1, e1, _, hck⟩ := (own_rd ho).u64 hkx
              cases e1
              rw [add_mk, gu_get hkx] at hck
              have hi60 := HR.out.lt hn hil
              have hk60 := HR.out.lt hn hkl
              have fz := ho.frozenAt i
              have ebit := shr_bit_u (gu xs i) k (by omega)
              have eor := u64_or_nat (gu xs i) (gu xs k) (by omega) (by omega)
              rw [mid_test HR.out hil hkl] at ebit
              have z1 : (0 : Int) ≤ (i : Int) := by omega
              have z2 : (i : Int) < (n : Int) := by omega
              have z3 : (0 : Int) ≤ (k : Int) := by omega
              have z4 : (k : Int) < (n : Int) := by omega
              have HXL := Lib.hid hxl
              clear hxl hi60 hk60
              cases hw : wsh (arcB es) k i k
              · rw [hw] at ebit
                have HN := Lib.hid (mid_skip HR.out hil hkl hw)
                clear hw eor
                go_wp2_with fail
                go_roundg (n - (i + 1))
                case measure => omega
                case rel => exact ⟨i + 1, _, by omega, rfl, by go_num, HN.out, ho, hb⟩
              · rw [hw] at ebit
                have HN := Lib.hid (mid_hit HR.out hil hkl hw)
                clear hw
                go_wp2_with fail
                go_region
                go_wp2_with fail
                go_roundg (n - (i + 1))
                case measure => omega
                case rel =>
                  obtain ⟨s1, s2⟩ := ho.stored i (uv (gu xs i ||| gu xs k))
                  rw [set_map] at s1
                  exact ⟨i + 1, _, by omega, rfl, by go_num, HN.out, s1, (hb.setCell (Nat.le_refl _) _).drew⟩
            · obtain rfl : i = n := by omega
              have HR := Lib.hid (mid_end HR.out)
              go_wp2_with fail
              go_roundg (i - (k + 1))
              case measure => omega
              case rel => exact ⟨k + 1, _, by omega, rfl, by go_num, HR.out, ho, hb⟩
        · obtain rfl : k = n := by omega
          go_wp2_with fail
          go_ret
          exact ⟨xs, HR.out, _, _, rfl, ho, hb⟩
end Go.Proofs.Ytkgoajnnkimkaaa
