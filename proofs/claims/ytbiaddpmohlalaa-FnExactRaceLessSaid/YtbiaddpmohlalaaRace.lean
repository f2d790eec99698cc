/- Contracts of RaceLess, of the program and of the reference. -/
import Derived.Test.YtbiaddpmohlalaaMem
import Derived.Deep.RegionHeld3
set_option linter.unusedSimpArgs false
set_option linter.unusedVariables false
namespace Go.Proofs.Ytbiaddpmohlalaa
open Go.ChangeShapes Go.WideShapes Go.ChangeAt Go.RowKit

/-- A race, as a value. -/
def raceV (x y z : Int) : Value := .agg #[.int .i64 x, .int .i64 y, .int .i64 z]
def raceLess (x y z a b c : Int) : Bool := if x ≠ a then decide (x < a) else if y ≠ b then decide (y < b) else decide (z < c)

theorem toRace_any (x y z : Int) (w : World) :
    Calls Try.prog 27 #[.agg #[.int .i64 x, .int .i64 y, .int .i64 z]] w fun e w' => e = .returned (.agg #[.int .i64 x, .int .i64 y, .int .i64 z]) ∧ Below w.heap.size w w' := by
  go_enter Try.func27, Try.ntmps27
  go_wp2
  exact bodyPost_ret (v := .agg #[.int .i64 x, .int .i64 y, .int .i64 z]) (by simp [results, Try.results27, go_sem]) rfl ⟨rfl, ((((Below.refl _ _).alloc (Nat.le_refl _) _).alloc (by simp) _).alloc (by simp; omega) _)⟩

theorem raceLess_s (x y z a b c : Int) (w : World) :
    Calls Try.prog 26 #[.agg #[.int .i64 x, .int .i64 y, .int .i64 z], .agg #[.int .i64 a, .int .i64 b, .int .i64 c]] w fun e w' => e = .returned (.bool (raceLess x y z a b c)) ∧ Below w.heap.size w w' := by
  have hb : Below w.heap.size w ((w.alloc (.cells #[.int .i64 x, .int .i64 y, .int .i64 z] 32)).alloc (.cells #[.int .i64 a, .int .i64 b, .int .i64 c] 32)) :=
    (((Below.refl _ _).alloc (Nat.le_refl _) _).alloc (by simp) _)
  by_cases h1 : x = a
  · subst h1
    by_cases h2 : y = b
    · subst h2
      go_enter Try.func26, Try.ntmps26
      go_wp2
      go_ret
      exact ⟨by simp [raceLess], hb⟩
    · have h2' : (y != b) = true := by simpa using h2
      go_enter Try.func26, Try.ntmps26
      go_wp2
      go_ret
      exact ⟨by simp [raceLess, h2], hb⟩
  · have h1' : (x != a) = true := by simpa using h1
    go_enter Try.func26, Try.ntmps26
    go_wp2
    go_ret
    exact ⟨by simp [raceLess, h1], hb⟩

/-- What cmp.Compare answers. -/
def cmpI (x y : Int) : Int := if x < y then -1 else if y < x then 1 else 0
theorem compare_any (x y : Int) (w : World) : Calls Try.prog 58 #[.int .i64 x, .int .i64 y] w fun e w' => e = .returned (.int .i64 (cmpI x y)) ∧ w = w' := by
  by_cases h : x < y
  · go_enter Try.func58, Try.ntmps58
    go_wp2
    go_ret
    exact ⟨ret_int (by simp [cmpI, h]), rfl⟩
  · by_cases h2 : y < x
    · go_enter Try.func58, Try.ntmps58
      go_wp2
      go_ret
      exact ⟨ret_int (by simp [cmpI, h, h2]), rfl⟩
    · go_enter Try.func58, Try.ntmps58
      go_wp2
      go_ret
      exact ⟨ret_int (by unfold cmpI; rw [if_neg (by omega), if_neg (by omega)]), rfl⟩
/-- What slices.Compare answers of lists of one length. -/
def lexI : List Int → List Int → Int
  | x :: xs, y :: ys => if cmpI x y = 0 then lexI xs ys else cmpI x y
  | _, _ => 0
theorem lexI_drop (xs ys : List Int) (k : Nat) (h1 : k < xs.length) (h2 : k < ys.length) : lexI (xs.drop k) (ys.drop k) = if cmpI xs[k] ys[k] = 0 then lexI (xs.drop (k + 1)) (ys.drop (k + 1)) else cmpI xs[k] ys[k] := by
  rw [List.drop_eq_getElem_cons h1, List.drop_eq_getElem_cons h2]; rfl

theorem sCompare_any {B B' : Nat} (A A' : Option Addr) (c d n : Nat) (xs ys : List Int) (w : World) (ha : Rd w B A (xs.map iv)) (hb : Rd w B' A' (ys.map iv)) (hx : xs.length = n) (hy : ys.length = n) (hn : n ≤ 1000000) :
    Calls Try.prog 56 #[.slice A n c, .slice A' n d] w fun e w' => e = .returned (.int .i64 (lexI xs ys)) ∧ w = w' := by
  have HX := Lib.hid hx
  have HY := Lib.hid hy
  clear hx hy
  go_enter Try.func56, Try.ntmps56
  go_wp2
  go_loop [11] (fun i => ∃ k : Nat, k ≤ n ∧ i = .int .i64 k ∧ lexI xs ys = lexI (xs.drop k) (ys.drop k)) (fun i => n - (intOf i).toNat)
  case atStart => exact ⟨0, by omega, rfl, rfl⟩
  case round =>
    obtain ⟨k, hk, rfl, heq⟩ := hrel
    have HE := Lib.hid heq
    clear heq
    by_cases hlt : k < n
    · have h1 : k < xs.length := by have := HX.out; omega
      have h2 : k < ys.length := by have := HY.out; omega
      obtain ⟨ad, rfl, _, hc⟩ := ha.int h1
      obtain ⟨bd, rfl, _, hd⟩ := hb.int h2
      have HL := Lib.hid (lexI_drop xs ys k h1 h2)
      generalize xs[k] = x at *
      generalize ys[k] = y at *
      by_cases hz : cmpI x y = 0
      · have hz' : (cmpI x y != 0) = false := by simpa using hz
        have HZ := Lib.hid hz
        clear hz
        go_wp2_with (go_at_call 58; refine (compare_any _ _ _).mono ?_; rintro e w' ⟨rfl, rfl⟩)
        go_round
        case rel => exact ⟨k + 1, by omega, by go_num, by rw [HE.out, HL.out, if_pos HZ.out]⟩
        case measure => simp [intOf]; omega
      · have hz' : (cmpI x y != 0) = true := by simpa using hz
        have HZ := Lib.hid hz
        clear hz
        go_wp2_with (go_at_call 58; refine (compare_any _ _ _).mono ?_; rintro e w' ⟨rfl, rfl⟩)
        go_ret
        exact ⟨ret_int (by rw [HE.out, HL.out, if_neg HZ.out]), rfl⟩
    · go_wp2
      go_ret
      have h1 := HX.out
      have h2 := HY.out
      exact ⟨ret_int (by rw [HE.out, List.drop_of_length_le (by omega)]; rfl), rfl⟩

theorem raceLess_lex (x y z a b c : Int) : decide (lexI [x, y, z] [a, b, c] < 0) = raceLess x y z a b c := by
  have h : ∀ p q : Int, cmpI p q = 0 ↔ p = q := by intro p q; unfold cmpI; split <;> (try split) <;> omega
  have h' : ∀ p q : Int, cmpI p q < 0 ↔ p < q := by intro p q; unfold cmpI; split <;> (try split) <;> omega
  simp only [lexI, raceLess, h]
  by_cases e1 : x = a
  · by_cases e2 : y = b
    · by_cases e3 : z = c
      · simp [e1, e2, e3]
      · simp [e1, e2, e3, h']
    · simp [e1, e2, h']
  · simp [e1, h']

theorem compareRaces_any (x y z a b c : Int) (w : World) :
    Calls Try.prog 48 #[.agg #[.int .i64 x, .int .i64 y, .int .i64 z], .agg #[.int .i64 a, .int .i64 b, .int .i64 c]] w fun e w' => e = .returned (.int .i64 (lexI [x, y, z] [a, b, c])) ∧ Below w.heap.size w w' := by
  go_enter Try.func48, Try.ntmps48
  go_wp2_with fail
  refine (sCompare_any _ _ 3 3 3 [x, y, z] [a, b, c] _ ((rd_new _ #[.int .i64 x, .int .i64 y, .int .i64 z] 3 _ (by simp)).below (below_alloc (Below.refl _ _) (by simp) _)) (rd_new _ #[.int .i64 a, .int .i64 b, .int .i64 c] 3 _ (by simp)) rfl rfl (by omega)).mono ?_
  rintro e w' ⟨rfl, rfl⟩
  go_wp2
  go_ret
  exact ⟨rfl, below_alloc (below_alloc (below_alloc (below_alloc0 _ _) (Nat.le_refl _) _) (Nat.le_refl _) _) (Nat.le_refl _) _⟩

theorem raceLess_i (x y z a b c : Int) (w : World) :
    Calls Try.prog 28 #[.agg #[.int .i64 x, .int .i64 y, .int .i64 z], .agg #[.int .i64 a, .int .i64 b, .int .i64 c]] w fun e w' => e = .returned (.bool (raceLess x y z a b c)) ∧ Below w.heap.size w w' := by
  go_enter Try.func28, Try.ntmps28
  go_wp2_with fail
  refine (compareRaces_any x y z a b c _).mono ?_
  rintro e w1 ⟨rfl, hb1⟩
  go_wp2
  go_ret
  exact ⟨ret_bool (raceLess_lex x y z a b c), below_trans' (below_alloc (below_alloc0 _ _) (Nat.le_refl _) _) hb1⟩
end Go.Proofs.Ytbiaddpmohlalaa
