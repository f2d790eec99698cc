/- Law helpers over lists of effects: marked, held. -/
import Derived.Test.YtfecdgjnncpcjaaB5
import Derived.Test.YtfecdgjnncpcjaaM2
import Derived.Test.YtfecdgjnncpcjaaB3
set_option linter.unusedSimpArgs false
set_option linter.unusedVariables false
namespace Go.Proofs.Ytfecdgjnncpcjaa
open Go.ChangeShapes Go.WideShapes Go.ChangeAt Go.RowKit
theorem eqEffs_same {B B' : Nat} (A A' : Option Addr) (c d : Nat) (es : List (Int × Int)) (w : World) (ha : Rd w B A (effCells es)) (hb : Rd w B' A' (effCells es)) (hn : es.length ≤ 1048576) :
    Calls Try.prog 27 #[.slice A es.length c, .slice A' es.length d] w fun e w' => e = .returned (.bool true) ∧ Below w.heap.size w w' := eqEffectS_any A A' c d es w ha hb hn
theorem upFrom_even (k n j : Nat) (hj : j < n) : ((upFrom k (n * 2)).map iv)[j * 2]? = some (.int .i64 ((k + j * 2 : Nat) : Int)) := by
  rw [List.getElem?_map, upFrom_get k (n * 2) (j * 2) (by omega)]; rfl
theorem upFrom_odd (k n j : Nat) (hj : j < n) : ((upFrom k (n * 2)).map iv)[j * 2 + 1]? = some (.int .i64 ((k + (j * 2 + 1) : Nat) : Int)) := by
  rw [List.getElem?_map, upFrom_get k (n * 2) (j * 2 + 1) (by omega)]; rfl
set_option maxHeartbeats 1000000 in
theorem markEffectS_any {base : Nat} (A : Option Addr) (c n k : Nat) (xs : List Value) (w : World) (ho : w.ownsRow base 78 2 (.slice A n c) n xs) (hn : n ≤ 1048576) (hk : k ≤ 1000000000) :
    Calls Try.prog 28 #[.slice A n c, .int .i64 k] w fun e w' => e = .returned (.int .i64 ((k + n * 2 : Nat) : Int)) ∧ w'.ownsRow base 78 2 (.slice A n c) n ((upFrom k (n * 2)).map iv) ∧ w.grownBy w' (Value.slice A n c).ownBlock := by
  rcases Nat.eq_zero_or_pos n with h0 | hp
  · subst h0
    go_enter Try.func28, Try.ntmps28
    go_wp2
    go_loopw [1, 5] (fun q i wr => q = .int .i64 (k : Int) ∧ i = .int .i64 0 ∧ wr = w) (fun _ _ _ => 0)
    case atStart => exact ⟨rfl, rfl, rfl⟩
    case round =>
      obtain ⟨rfl, rfl, rfl⟩ := hrel
      go_wp2
      go_ret
      have : xs = [] := List.eq_nil_of_length_eq_zero (by rw [ho.1])
      subst this
      exact ⟨rfl, ho, World.grownBy.refl _ _⟩
  · obtain ⟨g, rfl⟩ : ∃ g, A = some ⟨g, 0, none⟩ := by
      rcases ho.2 with ⟨e, h0⟩ | ⟨g, cap, cur, e, _⟩
      · omega
      · injection e with e; exact ⟨g, e⟩
    go_enter Try.func28, Try.ntmps28
    go_wp2
    go_loopw [1, 5] (fun q i wr => ∃ (j : Nat) (ys : List Value), j ≤ n ∧ i = .int .i64 j ∧ q = .int .i64 ((k + j * 2 : Nat) : Int) ∧ (∀ m, m < j * 2 → ys[m]? = ((upFrom k (n * 2)).map iv)[m]?) ∧ wr.ownsRow base 78 2 (.slice (some ⟨g, 0, none⟩) n c) n ys ∧ w.grownBy wr (some g)) (fun _ i _ => n - (intOf i).toNat)
    case atStart => exact ⟨0, xs, Nat.zero_le _, rfl, rfl, by simp, ho, World.grownBy.refl _ _⟩
    case round =>
      obtain ⟨j, ys, hj, rfl, rfl, hag, ho', hg⟩ := hrel
      have HA := Lib.hid hag
      clear hag
      by_cases hlt : j < n
      · obtain ⟨u, hu⟩ := own_has ho' (j := j * 2) (by omega)
        have hf := ho'.frozenAt (j * 2)
        obtain ⟨s1, s2⟩ := ho'.stored (j * 2) (iv ((k + j * 2 : Nat) : Int))
        obtain ⟨u1, hu1⟩ := own_has s1 (j := j * 2 + 1) (by omega)
        have hf1 := s1.frozenAt (j * 2 + 1)
        have e1 : ((k + j * 2 : Nat) : Int) + 1 = ((k + (j * 2 + 1) : Nat) : Int) := by omega
        obtain ⟨t1, t2⟩ := s1.stored (j * 2 + 1) (iv ((k + (j * 2 + 1) : Nat) : Int))
        have hlen : ys.length = n * 2 := ho'.1
        have HL := Lib.hid hlen
        clear hlen
        obtain ⟨v1, hv1⟩ := own_has ho' (j := j * 2 + 1) (by omega)
        have hg1 := ho'.frozenAt (j * 2 + 1)
        go_wp2
        go_roundw
        case rel =>
          refine ⟨j + 1, _, by omega, by go_num, by go_num, ?_, t1, (hg.trans s2).trans t2⟩
          have h1 := set_agree (ys := ys) (xs := (upFrom k (n * 2)).map iv) (k := j * 2) (x := iv ((k + j * 2 : Nat) : Int)) (by rw [HL.out]; simp [upFrom_length]) (upFrom_even k n j hlt) HA.out
          have h2 := set_agree (ys := ys.set (j * 2) (iv ((k + j * 2 : Nat) : Int))) (xs := (upFrom k (n * 2)).map iv) (k := j * 2 + 1) (x := iv ((k + (j * 2 + 1) : Nat) : Int)) (by rw [List.length_set, HL.out]; simp [upFrom_length]) (upFrom_odd k n j hlt) h1
          rw [show (j + 1) * 2 = j * 2 + 1 + 1 from by omega]
          exact h2
        case measure => simp [intOf]; omega
      · go_wp2
        go_ret
        obtain rfl : j = n := by omega
        have e : ys = (upFrom k (j * 2)).map iv := eq_of_agree (by rw [ho'.1]; simp [upFrom_length]) (by simpa [upFrom_length] using HA.out)
        subst e
        exact ⟨rfl, ho', hg⟩
end Go.Proofs.Ytfecdgjnncpcjaa
