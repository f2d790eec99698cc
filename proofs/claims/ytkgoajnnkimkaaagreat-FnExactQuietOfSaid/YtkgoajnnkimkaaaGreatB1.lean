/- Contracts of toIntS, eqIntS, markIntS, heldIntS. -/
import Derived.Test.YtkgoajnnkimkaaaGreatA2
import Derived.Test.YtkgoajnnkimkaaaGreatA4
import Derived.Test.YtkgoajnnkimkaaaGreatA5
import Derived.Test.YtkgoajnnkimkaaaGreatA1
set_option linter.unusedSimpArgs false
set_option linter.unusedVariables false
namespace Go.Proofs.YtkgoajnnkimkaaaGreat
open Go.ChangeShapes Go.WideShapes Go.ChangeAt Go.RowKit

theorem set_map {α : Type} (f : α → Value) (ys : List α) (k : Nat) (x : α) : (ys.map f).set k (f x) = (ys.set k x).map f := by rw [List.map_set]
theorem set_agree {α : Type} {xs ys : List α} {k : Nat} {x : α} (hl : ys.length = xs.length) (hx : xs[k]? = some x) (h : ∀ j, j < k → ys[j]? = xs[j]?) : ∀ j, j < k + 1 → (ys.set k x)[j]? = xs[j]? := by
  intro j hj
  rw [List.getElem?_set]
  by_cases e : k = j
  · subst e
    have : k < ys.length := by rw [hl]; exact (List.getElem?_eq_some_iff.1 hx).1
    simp [this, hx]
  · simp [e]
    exact h j (by omega)
theorem eq_of_agree {α : Type} {xs ys : List α} (hl : ys.length = xs.length) (h : ∀ j, j < xs.length → ys[j]? = xs[j]?) : ys = xs := by
  apply List.ext_getElem?
  intro j
  rcases Nat.lt_or_ge j xs.length with hj | hj
  · exact h j hj
  · rw [List.getElem?_eq_none hj, List.getElem?_eq_none (by omega)]

theorem toIntS_any {B : Nat} (A : Option Addr) (c : Nat) (xs : List Int) (w : World) (h0 : Rd w B A (xs.map iv)) (hn : xs.length ≤ 1099511627776) :
    Calls Tryz.prog 138 #[.slice A xs.length c] w (NewRow w 3 1 xs.length (xs.map iv)) := by
  have h := h0.full
  clear h0
  go_enter Tryz.func138, Tryz.ntmps138
  go_wp2_with (at_make; refine make_ints _ rfl _ _ rfl xs.length rfl rfl hn ?_; intro w1 hown hb)
  go_loopw [4] (fun i wr => ∃ (k : Nat) (ys : List Int), k ≤ xs.length ∧ i = .int .i64 k ∧ ys.length = xs.length ∧ (∀ j, j < k → ys[j]? = xs[j]?) ∧ wr.ownsRow w.heap.size 3 1 (.slice (some ⟨w.heap.size, 0, none⟩) xs.length xs.length) xs.length (ys.map iv) ∧ Below w.heap.size w wr) (fun i _ => xs.length - (intOf i).toNat)
  case atStart => exact ⟨0, _, Nat.zero_le _, rfl, by simp, by simp, hown, hb⟩
  case round =>
    obtain ⟨k, ys, hk, rfl, hl, hag, ho, hbr⟩ := hrel
    clear hown hb
    have HL := Lib.hid hl
    have HA := Lib.hid hag
    clear hl hag
    by_cases hlt : k < xs.length
    · obtain ⟨ad, rfl, _, hc⟩ := (h.below hbr).int hlt
      obtain ⟨u, hu⟩ := own_has ho (j := k) (by omega)
      have hf := ho.frozenAt k
      go_wp2
      go_roundw
      case rel =>
        obtain ⟨s1, s2⟩ := ho.stored k (iv xs[k])
        rw [set_map] at s1
        exact ⟨k + 1, _, by omega, by go_num, by simpa using HL.out, set_agree HL.out (by simp [hlt]) HA.out, s1, hbr.setCell (Nat.le_refl _) _⟩
      case measure => simp [intOf]; omega
    · go_wp2
      go_ret
      obtain rfl : k = xs.length := by omega
      have e := eq_of_agree HL.out HA.out
      subst e
      exact ⟨_, _, rfl, ho, hbr⟩

theorem eqIntS_any {B B' : Nat} (A A' : Option Addr) (c d : Nat) (xs ys : List Int) (w : World) (ha : Rd w B A (xs.map iv)) (hb : Rd w B' A' (ys.map iv)) (hx : xs.length ≤ 1099511627776) (hy : ys.length ≤ 1099511627776) :
    Calls Tryz.prog 68 #[.slice A xs.length c, .slice A' ys.length d] w fun e w' => e = .returned (.bool (decide (xs = ys))) ∧ ∃ n, w' = w.drewN n := by
  by_cases hl : xs.length = ys.length
  · have hne : ((xs.length : Int) != ys.length) = false := by simp [hl]
    have HL := Lib.hid hl
    clear hl
    go_enter Tryz.func68, Tryz.ntmps68
    go_wp2
    go_loopw [5] (fun i wr => ∃ k : Nat, k ≤ xs.length ∧ i = .int .i64 k ∧ xs.take k = ys.take k ∧ ∃ n, wr = w.drewN n) (fun i _ => xs.length - (intOf i).toNat)
    case atStart => exact ⟨0, Nat.zero_le _, rfl, rfl, 0, rfl⟩
    case round =>
      obtain ⟨k, hk, rfl, heq, n, rfl⟩ := hrel
      have HE := Lib.hid heq
      clear heq
      by_cases hlt : k < xs.length
      · have hlt' : k < ys.length := by have := HL.out; omega
        obtain ⟨ad, rfl, _, hc⟩ := ha.int hlt
        obtain ⟨bd, rfl, _, hd⟩ := hb.int hlt'
        by_cases he : xs[k] = ys[k]
        · have hq : (xs[k] != ys[k]) = false := by simp [he]
          have HQ := Lib.hid he
          clear he
          go_wp2
          go_quiet (fail)
          go_wp2
          go_roundw
          case rel => exact ⟨k + 1, by omega, by go_num, by rw [List.take_succ_eq_append_getElem hlt, List.take_succ_eq_append_getElem hlt', HE.out, HQ.out], _, rfl⟩
          case measure => simp [intOf]; omega
        · have hq : (xs[k] != ys[k]) = true := by simp [he]
          go_wp2
          go_quiet (fail)
          go_wp2
          go_ret
          have : xs ≠ ys := by rintro rfl; exact he rfl
          exact ⟨by simp [this], _, World.drewN_drewN ..⟩
      · go_wp2
        go_ret
        refine ⟨?_, _, rfl⟩
        have h1 := HE.out
        rw [List.take_of_length_le (by omega), List.take_of_length_le (by have := HL.out; omega)] at h1
        simp [h1]
  · have hne : ((xs.length : Int) != ys.length) = true := by simp; omega
    go_enter Tryz.func68, Tryz.ntmps68
    go_wp2
    go_ret
    have : xs ≠ ys := by rintro rfl; exact hl rfl
    exact ⟨by simp [this], 0, rfl⟩

/-- k, k + 1 and so on: n numbers. -/
def upFrom (k n : Nat) : List Int := (List.range n).map fun i => ((k + i : Nat) : Int)
theorem upFrom_length (k n : Nat) : (upFrom k n).length = n := by simp [upFrom]
theorem upFrom_get (k n i : Nat) (h : i < n) : (upFrom k n)[i]? = some ((k + i : Nat) : Int) := by simp [upFrom, h]

theorem markIntS_any {base : Nat} (A : Option Addr) (c n k : Nat) (xs : List Value) (w : World) (ho : w.ownsRow base 3 1 (.slice A n c) n xs) (hn : n ≤ 1099511627776) (hk : k ≤ 4611686018427387904) :
    Calls Tryz.prog 71 #[.slice A n c, .int .i64 k] w fun e w' => e = .returned (.int .i64 ((k + n : Nat) : Int)) ∧ w'.ownsRow base 3 1 (.slice A n c) n ((upFrom k n).map iv) ∧ w.grownBy w' (Value.slice A n c).ownBlock := by
  rcases Nat.eq_zero_or_pos n with h0 | hp
  · subst h0
    go_enter Tryz.func71, Tryz.ntmps71
    go_wp2
    go_loopw [1, 5] (fun q i wr => q = .int .i64 (k : Int) ∧ i = .int .i64 0 ∧ wr = w) (fun _ _ _ => 0)
    case atStart => exact ⟨rfl, rfl, rfl⟩
    case round =>
      obtain ⟨rfl, rfl, rfl⟩ := hrel
      go_wp2
      go_ret
      have : xs = [] := List.eq_nil_of_length_eq_zero (own_len ho)
      subst this
      exact ⟨rfl, ho, World.grownBy.refl _ _⟩
  · obtain ⟨g, rfl⟩ : ∃ g, A = some ⟨g, 0, none⟩ := by
      rcases ho.2 with ⟨e, h0⟩ | ⟨g, cap, cur, e, _⟩
      · omega
      · injection e with e; exact ⟨g, e⟩
    go_enter Tryz.func71, Tryz.ntmps71
    go_wp2
    go_loopw [1, 5] (fun q i wr => ∃ (j : Nat) (ys : List Value), j ≤ n ∧ i = .int .i64 j ∧ q = .int .i64 ((k + j : Nat) : Int) ∧ (∀ m, m < j → ys[m]? = ((upFrom k n).map iv)[m]?) ∧ wr.ownsRow base 3 1 (.slice (some ⟨g, 0, none⟩) n c) n ys ∧ w.grownBy wr (some g)) (fun _ i _ => n - (intOf i).toNat)
    case atStart => exact ⟨0, xs, Nat.zero_le _, rfl, rfl, by simp, ho, World.grownBy.refl _ _⟩
    case round =>
      obtain ⟨j, ys, hj, rfl, rfl, hag, ho', hg⟩ := hrel
      have HA := Lib.hid hag
      clear hag
      by_cases hlt : j < n
      · obtain ⟨u, hu⟩ := own_has ho' (j := j) (by omega)
        have hf := ho'.frozenAt j
        go_wp2
        go_roundw
        case rel =>
          obtain ⟨s1, s2⟩ := ho'.stored j (iv ((k + j : Nat) : Int))
          refine ⟨j + 1, _, by omega, by go_num, by go_num, ?_, s1, hg.trans s2⟩
          exact set_agree (by rw [own_len ho']; simp [upFrom_length]) (by rw [List.getElem?_map, upFrom_get k n j hlt]; rfl) HA.out
        case measure => simp [intOf]; omega
      · go_wp2
        go_ret
        obtain rfl : j = n := by omega
        have e : ys = (upFrom k j).map iv := eq_of_agree (by rw [own_len ho']; simp [upFrom_length]) (by simpa [upFrom_length] using HA.out)
        subst e
        exact ⟨rfl, ho', hg⟩

theorem heldIntS_any {B : Nat} (A : Option Addr) (c n k : Nat) (w : World) (h : Rd w B A ((upFrom k n).map iv)) (hn : n ≤ 1099511627776) (hk : k ≤ 4611686018427387904) :
    Calls Tryz.prog 72 #[.slice A n c, .int .i64 k] w fun e w' => e = .returned (.int .i64 ((k + n : Nat) : Int)) ∧ ∃ m, w' = w.drewN m := by
  go_enter Tryz.func72, Tryz.ntmps72
  go_wp2
  go_loopw [1, 5] (fun q i wr => ∃ j : Nat, j ≤ n ∧ i = .int .i64 j ∧ q = .int .i64 ((k + j : Nat) : Int) ∧ ∃ m, wr = w.drewN m) (fun _ i _ => n - (intOf i).toNat)
  case atStart => exact ⟨0, Nat.zero_le _, rfl, rfl, 0, rfl⟩
  case round =>
    obtain ⟨j, hj, rfl, rfl, m, rfl⟩ := hrel
    by_cases hlt : j < n
    · obtain ⟨ad, rfl, _, hc⟩ := h.int (k := j) (by rw [upFrom_length]; exact hlt)
      have e : (upFrom k n)[j]'(by rw [upFrom_length]; exact hlt) = ((k + j : Nat) : Int) := by simp [upFrom]
      rw [e] at hc
      clear e
      go_wp2
      go_roundw
      case rel => exact ⟨j + 1, by omega, by go_num, by go_num, _, rfl⟩
      case measure => simp [intOf]; omega
    · go_wp2
      go_ret
      obtain rfl : j = n := by omega
      exact ⟨rfl, _, rfl⟩

theorem eqIntS_b {B B' : Nat} (A A' : Option Addr) (c d : Nat) (xs ys : List Int) (w : World) (ha : Rd w B A (xs.map iv)) (hb : Rd w B' A' (ys.map iv)) (hx : xs.length ≤ 1099511627776) (hy : ys.length ≤ 1099511627776) :
    Calls Tryz.prog 68 #[.slice A xs.length c, .slice A' ys.length d] w fun e w' => e = .returned (.bool (decide (xs = ys))) ∧ Below w.heap.size w w' :=
  (eqIntS_any A A' c d xs ys w ha hb hx hy).mono fun e w' ⟨he, n, hw⟩ => ⟨he, below_of_drewN hw⟩
theorem eqIntS_same {B B' : Nat} (A A' : Option Addr) (c d : Nat) (xs : List Int) (w : World) (ha : Rd w B A (xs.map iv)) (hb : Rd w B' A' (xs.map iv)) (hx : xs.length ≤ 1099511627776) :
    Calls Tryz.prog 68 #[.slice A xs.length c, .slice A' xs.length d] w fun e w' => e = .returned (.bool true) ∧ Below w.heap.size w w' :=
  (eqIntS_any A A' c d xs xs w ha hb hx hx).mono fun e w' ⟨he, n, hw⟩ => ⟨by rw [he, decide_eq_true rfl], below_of_drewN hw⟩
theorem heldIntS_b {B : Nat} (A : Option Addr) (c n k : Nat) (w : World) (h : Rd w B A ((upFrom k n).map iv)) (hn : n ≤ 1099511627776) (hk : k ≤ 4611686018427387904) :
    Calls Tryz.prog 72 #[.slice A n c, .int .i64 k] w fun e w' => e = .returned (.int .i64 ((k + n : Nat) : Int)) ∧ Below w.heap.size w w' :=
  (heldIntS_any A c n k w h hn hk).mono fun e w' ⟨he, n, hw⟩ => ⟨he, below_of_drewN hw⟩
end Go.Proofs.YtkgoajnnkimkaaaGreat
/- Contracts of bitsOf, and of ListOf, of the program and of the reference. -/
set_option linter.unusedSimpArgs false
set_option linter.unusedVariables false
namespace Go.Proofs.YtkgoajnnkimkaaaGreat
open Go.ChangeShapes Go.WideShapes Go.ChangeAt Go.RowKit

/-- The numbers below k that are in s. -/
def bitsTo (s k : Nat) : List Nat := (List.range k).filter fun i => s.testBit i
def natI (n : Nat) : Int := n
theorem bitsTo_succ (s k : Nat) : bitsTo s (k + 1) = if s.testBit k then bitsTo s k ++ [k] else bitsTo s k := by
  unfold bitsTo
  rw [List.range_succ, List.filter_append]
  by_cases h : s.testBit k <;> simp [h]
theorem bitsTo_len (s k : Nat) : (bitsTo s k).length ≤ k := by
  have := List.length_filter_le (fun i => s.testBit i) (List.range k)
  simpa [bitsTo] using this
theorem bitsTo_stop (s k m : Nat) (h : s < 2 ^ k) (hm : k ≤ m) : bitsTo s m = bitsTo s k := by
  induction m with
  | zero => rw [show k = 0 from by omega]
  | succ m ih =>
    rcases Nat.lt_or_ge m k with h1 | h1
    · rw [show k = m + 1 from by omega]
    · rw [bitsTo_succ, if_neg, ih h1]
      rw [Nat.testBit_lt_two_pow (Nat.lt_of_lt_of_le h (Nat.pow_le_pow_right (by omega) h1))]
      simp
/-- All that is in s. -/
def bitsL (s : Nat) : List Int := (bitsTo s 62).map natI
theorem lt_pow_of_div {s k : Nat} (h : s / 2 ^ k = 0) : s < 2 ^ k := by
  rcases Nat.div_eq_zero_iff.1 h with h | h
  · exact absurd h (Nat.ne_of_gt (Nat.two_pow_pos k))
  · exact h

theorem bitsOf_any (s : Nat) (w : World) (hs : s < 4611686018427387904) :
    Calls Tryz.prog 102 #[.int .i64 s] w (NewRow w 3 1 (bitsL s).length ((bitsL s).map iv)) := by
  go_enter Tryz.func102, Tryz.ntmps102
  go_wp2
  go_loopw [3, 4] (fun v i wr => ∃ k : Nat, k ≤ 62 ∧ i = .int .i64 k ∧ wr.ownsRow w.heap.size 3 1 v (bitsTo s k).length (((bitsTo s k).map natI).map iv) ∧ Below w.heap.size w wr) (fun _ i _ => 62 - (intOf i).toNat)
  case atStart => exact ⟨0, by omega, rfl, World.ownsRow_nil _ _ _ _, Below.refl _ _⟩
  case round =>
    rename_i v i
    obtain ⟨k, hk, rfl, ho, hb⟩ := hrel
    have hsz := hb.size
    obtain ⟨A, c, rfl⟩ := own_form ho
    have hlen := bitsTo_len s k
    by_cases hd : s / 2 ^ k = 0
    · have h1 : (((s : Int) / 2 ^ k) != 0) = false := by
        have : ((s : Int) / 2 ^ k) = ((s / 2 ^ k : Nat) : Int) := by simp
        rw [this, hd]; rfl
      have HD := Lib.hid hd
      clear hd
      go_wp2
      go_ret
      have e : bitsTo s 62 = bitsTo s k := bitsTo_stop s k 62 (lt_pow_of_div HD.out) hk
      refine ⟨A, c, by simp [bitsL, e], ?_, hb⟩
      simpa [bitsL, e] using ho
    · have h1 : (((s : Int) / 2 ^ k) != 0) = true := by
        have : ((s : Int) / 2 ^ k) = ((s / 2 ^ k : Nat) : Int) := by simp
        rw [this, bne_iff_ne]; omega
      have hk' : k < 62 := by
        rcases Nat.lt_or_ge k 62 with h | h
        · exact h
        · have : s < 2 ^ k := Nat.lt_of_lt_of_le (show s < 2 ^ 62 from by omega) (Nat.pow_le_pow_right (by omega) h)
          exact absurd (Nat.div_eq_of_lt this) hd
      clear hd
      have HS := Lib.hid (bitsTo_succ s k)
      by_cases hbit : s.testBit k = true
      · have HB := Lib.hid hbit
        clear hbit
        go_wp2_with (first
          | (go_at_call 131; refine (hasBit_any _ _ _ (by omega) (by omega)).mono ?_; rintro e w' ⟨rfl, rfl⟩; rw [HB.out])
          | (at_builtin; refine append_int rfl _ _ rfl ho rfl rfl (by omega) hsz ?_; intro A' c' w1 ho1 hg1 _))
        go_roundw
        case rel => exact ⟨k + 1, by omega, by go_num, by rw [HS.out, if_pos HB.out]; simpa [natI] using ho1, below_append hb ho hg1 hsz (Nat.le_refl _)⟩
        case measure => simp [intOf]; omega
      · have HB := Lib.hid (by simpa using hbit : s.testBit k = false)
        clear hbit
        go_wp2_with (go_at_call 131; refine (hasBit_any _ _ _ (by omega) (by omega)).mono ?_; rintro e w' ⟨rfl, rfl⟩; rw [HB.out])
        go_roundw
        case rel => exact ⟨k + 1, by omega, by go_num, by rw [HS.out, if_neg (by rw [HB.out]; simp)]; exact ho, hb⟩
        case measure => simp [intOf]; omega

/-- What ListOf answers. -/
def listOf (s : Int) : List Int := if isSetB s then bitsL s.toNat else []
theorem bitsL_six (s : Nat) (h : s < 64) : bitsL s = (bitsTo s 6).map natI := by rw [bitsL, bitsTo_stop s 6 62 h (by omega)]

end Go.Proofs.YtkgoajnnkimkaaaGreat
/- Contracts of szStringS, toStringS, eqStringS, szIntS. -/
set_option linter.unusedSimpArgs false
set_option linter.unusedVariables false
namespace Go.Proofs.YtkgoajnnkimkaaaGreat
open Go.ChangeShapes Go.WideShapes Go.ChangeAt Go.RowKit

/-- The answer of a function that counts off from left: some number not below -1 and not above left; if it is no -1, then P of it. -/
def Szd (w : World) (left : Nat) (P : Nat → Prop) (e : Ending) (w' : World) : Prop :=
  Below w.heap.size w w' ∧ ((e = .returned (.int .i64 (-1))) ∨ ∃ r : Nat, e = .returned (.int .i64 r) ∧ r ≤ left ∧ P r)

theorem szIntS_any (A : Option Addr) (c n : Nat) (left : Nat) (w : World) (hn : n ≤ 9223372036854775807) (hl : left ≤ 1048576) :
    Calls Tryz.prog 135 #[.slice A n c, .int .i64 left] w (Szd w left fun r => r + n ≤ left) := by
  go_enter Tryz.func135, Tryz.ntmps135
  by_cases h : n ≤ left
  · go_wp2
    go_ret
    exact ⟨Below.refl _ _, .inr ⟨left - n, by go_num, by omega, by omega⟩⟩
  · go_wp2
    go_ret
    exact ⟨Below.refl _ _, .inl rfl⟩

theorem szStringS_any {B : Nat} (A : Option Addr) (c : Nat) (xs : List ByteArray) (left : Nat) (w : World) (h : Rd w B A (xs.map sv)) (hn : xs.length ≤ 9223372036854775807) (hs : ∀ s ∈ xs, s.size ≤ 9223372036854775807) (hl : left ≤ 1048576) :
    Calls Tryz.prog 134 #[.slice A xs.length c, .int .i64 left] w (Szd w left fun r => r + xs.length ≤ left ∧ ∀ s ∈ xs, s.size ≤ left) := by
  have HS := Lib.hid hs
  clear hs
  go_enter Tryz.func134, Tryz.ntmps134
  by_cases hlt : xs.length ≤ left
  · have hlt' : ¬ ((left : Int) - xs.length < 0) := by omega
    go_wp2
    go_loopw [1, 5] (fun q i wr => ∃ (j r : Nat), j ≤ xs.length ∧ i = .int .i64 j ∧ q = .int .i64 r ∧ r + xs.length ≤ left ∧ (∀ s ∈ xs.take j, s.size ≤ left) ∧ ∃ m, wr = w.drewN m) (fun _ i _ => xs.length - (intOf i).toNat)
    case atStart => exact ⟨0, left - xs.length, Nat.zero_le _, rfl, by go_num, by omega, by simp, 0, rfl⟩
    case round =>
      obtain ⟨j, r, hj, rfl, rfl, hr, hag, m, rfl⟩ := hrel
      have HA := Lib.hid hag
      clear hag
      by_cases hlt : j < xs.length
      · obtain ⟨ad, rfl, _, hc⟩ := h.str hlt
        have hz := HS.out _ (List.getElem_mem hlt)
        by_cases hle : xs[j].size ≤ r
        · go_wp2
          go_roundw
          case rel =>
            refine ⟨j + 1, r - xs[j].size, by omega, by go_num, by go_num, by omega, ?_, _, rfl⟩
            intro s hs
            rw [List.take_succ_eq_append_getElem hlt] at hs
            rcases List.mem_append.1 hs with h | h
            · exact HA.out s h
            · rw [List.mem_singleton.1 h]; omega
          case measure => simp [intOf]; omega
        · go_wp2
          go_ret
          exact ⟨below_drewN (Below.refl _ _) _, .inl rfl⟩
      · go_wp2
        go_ret
        have := HA.out
        rw [List.take_of_length_le (by omega)] at this
        exact ⟨below_drewN (Below.refl _ _) _, .inr ⟨r, rfl, by omega, hr, this⟩⟩
  · have hlt' : ((left : Int) - xs.length < 0) := by omega
    go_wp2
    go_ret
    exact ⟨Below.refl _ _, .inl rfl⟩

section
variable (w : World) {ops : Array Oper} {rest : List Oper} {o : Oper} {a : Act} {Q : Exit → Act → World → Prop}
theorem replicate_sv (n : Nat) : (madeCells (Value.string ⟨#[]⟩).cells (n * 1)).toList = (List.replicate n (⟨#[]⟩ : ByteArray)).map sv := by
  show (madeCells #[Value.string ⟨#[]⟩] (n * 1)).toList = _
  rw [toList_madeCells_one, Nat.mul_one, List.map_replicate]; rfl
/-- make([]string, n). -/
theorem make_strs (hg : o.guard = none) (l c : Operand) (hop : o.op = Op.makeSlice 24 l c) (n : Nat) (hl : a.eval l = .int .i64 (n : Int)) (hc : a.eval c = .int .i64 (n : Int)) (hn : n ≤ 1099511627776)
    (hK : ∀ w', w'.ownsRow w.heap.size 9 1 (.slice (some ⟨w.heap.size, 0, none⟩) n n) n ((List.replicate n (⟨#[]⟩ : ByteArray)).map sv) → Below w.heap.size w w' →
      wpList Tryz.prog ops Q rest (a.put o.dst (.slice (some ⟨w.heap.size, 0, none⟩) n n)) w') : wpList Tryz.prog ops Q (o :: rest) a w := by
  obtain ⟨i0, hi, hz0, hz1, hz2⟩ := info_parts info_string
  refine wpList_make_full w hg l c _ hop w.heap.size _ i0 _ 1 Tryz.underlying24 hi hz0 hz1 _ _ _ _ n hl hc rfl rfl (by rw [hz2]; omega) (by unfold maxLen; omega) (Nat.le_refl _) ?_
  intro w' h1 h2
  rw [replicate_sv] at h1
  exact hK w' h1 ((Below.refl _ _).grown h2 (Nat.le_refl _) (by simp))
end

theorem toStringS_any {B : Nat} (A : Option Addr) (c : Nat) (xs : List ByteArray) (w : World) (h0 : Rd w B A (xs.map sv)) (hn : xs.length ≤ 1099511627776) :
    Calls Tryz.prog 137 #[.slice A xs.length c] w (NewRow w 9 1 xs.length (xs.map sv)) := by
  have h := h0.full
  clear h0
  go_enter Tryz.func137, Tryz.ntmps137
  go_wp2_with (at_make; refine make_strs _ rfl _ _ rfl xs.length rfl rfl hn ?_; intro w1 hown hb)
  go_loopw [4] (fun i wr => ∃ (k : Nat) (ys : List ByteArray), k ≤ xs.length ∧ i = .int .i64 k ∧ ys.length = xs.length ∧ (∀ j, j < k → ys[j]? = xs[j]?) ∧ wr.ownsRow w.heap.size 9 1 (.slice (some ⟨w.heap.size, 0, none⟩) xs.length xs.length) xs.length (ys.map sv) ∧ Below w.heap.size w wr) (fun i _ => xs.length - (intOf i).toNat)
  case atStart => exact ⟨0, _, Nat.zero_le _, rfl, by simp, by simp, hown, hb⟩
  case round =>
    obtain ⟨k, ys, hk, rfl, hl, hag, ho, hbr⟩ := hrel
    clear hown hb
    have HL := Lib.hid hl
    have HA := Lib.hid hag
    clear hl hag
    by_cases hlt : k < xs.length
    · obtain ⟨ad, rfl, _, hc⟩ := (h.below hbr).str hlt
      obtain ⟨u, hu⟩ := own_has ho (j := k) (by omega)
      have hf := ho.frozenAt k
      go_wp2
      go_roundw
      case rel =>
        obtain ⟨s1, s2⟩ := ho.stored k (sv xs[k])
        rw [set_map] at s1
        exact ⟨k + 1, _, by omega, by go_num, by simpa using HL.out, set_agree HL.out (by simp [hlt]) HA.out, s1, hbr.setCell (Nat.le_refl _) _⟩
      case measure => simp [intOf]; omega
    · go_wp2
      go_ret
      obtain rfl : k = xs.length := by omega
      have e := eq_of_agree HL.out HA.out
      subst e
      exact ⟨_, _, rfl, ho, hbr⟩

theorem eqStringS_same {B B' : Nat} (A A' : Option Addr) (c d : Nat) (xs : List ByteArray) (w : World) (ha : Rd w B A (xs.map sv)) (hb : Rd w B' A' (xs.map sv)) (hx : xs.length ≤ 1099511627776) :
    Calls Tryz.prog 140 #[.slice A xs.length c, .slice A' xs.length d] w fun e w' => e = .returned (.bool true) ∧ Below w.heap.size w w' := by
  have hne : ((xs.length : Int) != xs.length) = false := by simp
  go_enter Tryz.func140, Tryz.ntmps140
  go_wp2
  go_loopw [5] (fun i wr => ∃ k : Nat, k ≤ xs.length ∧ i = .int .i64 k ∧ ∃ n, wr = w.drewN n) (fun i _ => xs.length - (intOf i).toNat)
  case atStart => exact ⟨0, Nat.zero_le _, rfl, 0, rfl⟩
  case round =>
    obtain ⟨k, hk, rfl, n, rfl⟩ := hrel
    by_cases hlt : k < xs.length
    · obtain ⟨ad, rfl, _, hc⟩ := ha.str hlt
      obtain ⟨bd, rfl, _, hd⟩ := hb.str hlt
      have hq : (!(xs[k].toList == xs[k].toList)) = false := by simp
      go_wp2
      go_quiet (fail)
      go_wp2
      go_roundw
      case rel => exact ⟨k + 1, by omega, by go_num, _, rfl⟩
      case measure => simp [intOf]; omega
    · go_wp2
      go_ret
      exact ⟨rfl, below_drewN (Below.refl _ _) _⟩

/-- What szTerm and szTermS answer about a term and about the kids of a term. -/
def SzTerm (t : Tm) : Prop := ∀ (B : Nat) (A : Option Addr) (c left : Nat) (w : World), KidsAt w B A t.kids → TmB 9223372036854775807 t → left ≤ 1048576 →
  Calls Tryz.prog 216 #[.agg #[.int .i64 t.kind, .int .i64 t.num, .string t.name, .slice A t.kids.length c], .int .i64 left] w (Szd w left fun r => r + t.cnt ≤ left ∧ TmB 1048576 t)
theorem szTermS_of {B : Nat} (A : Option Addr) (c left : Nat) (ks : List Tm) (w : World) (hk : KidsAt w B A ks) (hn : ks.length ≤ 9223372036854775807) (hb : ∀ i (h : i < ks.length), TmB 9223372036854775807 ks[i]) (hl : left ≤ 1048576) (ih : ∀ i (h : i < ks.length), SzTerm ks[i]) :
    Calls Tryz.prog 235 #[.slice A ks.length c, .int .i64 left] w (Szd w left fun r => r + Tm.cntL ks ≤ left ∧ ∀ i (h : i < ks.length), TmB 1048576 ks[i]) := by
  have HI := Lib.hid ih
  have HB := Lib.hid hb
  clear ih hb
  go_enter Tryz.func235, Tryz.ntmps235
  by_cases hle : ks.length ≤ left
  · have hle' : ¬ ((left : Int) - ks.length < 0) := by omega
    go_wp2
    go_loopw [1, 5] (fun q i wr => ∃ (j r : Nat), j ≤ ks.length ∧ i = .int .i64 j ∧ q = .int .i64 r ∧ r + Tm.cntL (ks.take j) + (ks.length - j) ≤ left ∧ (∀ i (h : i < ks.length), i < j → TmB 1048576 ks[i]) ∧ Below w.heap.size w wr) (fun _ i _ => ks.length - (intOf i).toNat)
    case atStart => exact ⟨0, left - ks.length, Nat.zero_le _, rfl, by go_num, by simp [Tm.cntL]; omega, fun i h hi => by omega, Below.refl _ _⟩
    case round =>
      obtain ⟨j, r, hj, rfl, rfl, hr, hag, hbr⟩ := hrel
      have HA := Lib.hid hag
      clear hag
      by_cases hlt : j < ks.length
      · have hk' := hk.full.below hbr
        obtain ⟨ad, A', c', rfl, hbl, k0, k1, k2, k3, hk2⟩ := hk'.get hlt
        go_wp2_with fail
        refine (HI.out j hlt _ A' c' r _ hk2 (HB.out j hlt) (by omega)).mono ?_
        rintro e w' ⟨hb1, rfl | ⟨r', rfl, hr', hcn, hok⟩⟩
        · go_wp2_with fail
          go_ret
          exact ⟨below_trans' hbr hb1, .inl rfl⟩
        · have hnn : ¬ ((r' : Int) < 0) := by omega
          go_wp2_with fail
          go_roundw
          case rel =>
            refine ⟨j + 1, r', by omega, by go_num, rfl, by rw [cntL_take hlt]; omega, ?_, below_trans' hbr hb1⟩
            intro i h hi
            rcases Nat.lt_succ_iff_lt_or_eq.1 hi with h1 | rfl
            · exact HA.out i h h1
            · exact hok
          case measure => simp [intOf]; omega
      · go_wp2
        go_ret
        rw [List.take_of_length_le (by omega)] at hr
        exact ⟨hbr, .inr ⟨r, rfl, by omega, by omega, fun i h => HA.out i h (by omega)⟩⟩
  · have hle' : ((left : Int) - ks.length < 0) := by omega
    go_wp2
    go_ret
    exact ⟨Below.refl _ _, .inl rfl⟩
theorem szTerm_step (t : Tm) (ih : ∀ i (h : i < t.kids.length), SzTerm t.kids[i]) : SzTerm t := by
  intro B A c left w hk hb hl
  obtain ⟨f1, f2, f3, f4⟩ := hb.fits
  have HS := Lib.hid (fun r (hr : r ≤ 1048576) W (h : KidsAt W W.heap.size A t.kids) => szTermS_of A c r t.kids W h f4 (fun i h => hb.kid i h) hr ih)
  have HT := Lib.hid (show ∀ r, r ≤ left → t.name.size ≤ left → (t.kids.length ≤ r ∧ ∀ i (h : i < t.kids.length), TmB 1048576 t.kids[i]) → TmB 1048576 t from fun r hr h1 h2 => by
    rw [Tm.eta t]
    exact .mk _ _ _ _ f1 f2 (by omega) (by omega) h2.2)
  clear ih hb
  go_enter Tryz.func216, Tryz.ntmps216
  by_cases hle : t.name.size ≤ left
  · have hle' : ¬ ((left : Int) - t.name.size < 0) := by omega
    have e : ((left : Int) - t.name.size) = ((left - t.name.size : Nat) : Int) := by omega
    have HE := Lib.hid e
    clear e
    go_wp2_with fail
    rw [HE.out]
    refine (HS.out (left - t.name.size) (by omega) _ (hk.full.below (below_alloc0 _ _)).full).mono ?_
    rintro e w' ⟨hb1, rfl | ⟨r', rfl, hr', hcn, hok⟩⟩
    · go_wp2_with fail
      go_ret
      exact ⟨below_trans' (below_alloc0 _ _) hb1, .inl rfl⟩
    · have hnn : ¬ ((r' : Int) < 0) := by omega
      go_wp2_with fail
      go_ret
      exact ⟨below_trans' (below_alloc0 _ _) hb1, .inr ⟨r', rfl, by omega, by rw [Tm.cnt_kids]; omega, HT.out left (by omega) hle ⟨by have := cntL_ge t.kids; omega, hok⟩⟩⟩
  · have hle' : ((left : Int) - t.name.size < 0) := by omega
    go_wp2_with fail
    go_ret
    exact ⟨below_alloc0 _ _, .inl rfl⟩
theorem szTerm_any (t : Tm) : SzTerm t := by
  have : ∀ (n : Nat) (t : Tm), SizeOf.sizeOf t ≤ n → SzTerm t := by
    intro n
    induction n with
    | zero => intro t h; cases t; simp at h
    | succ n ih => intro t h; exact szTerm_step t fun i hi => ih _ (by have := sizeOf_kid i hi; omega)
  exact this _ t (Nat.le_refl _)
end Go.Proofs.YtkgoajnnkimkaaaGreat
