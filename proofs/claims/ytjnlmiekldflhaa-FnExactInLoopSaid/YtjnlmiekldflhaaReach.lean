/- Contracts of reach, marked and liveOf. -/
import Derived.Test.YtjnlmiekldflhaaSpread
set_option linter.unusedSimpArgs false
set_option linter.unusedVariables false
namespace Go.Proofs.Ytjnlmiekldflhaa
open Go.ChangeShapes Go.WideShapes Go.ChangeAt Go.RowKit

section
variable (w : World) {ops : Array Oper} {rest : List Oper} {o : Oper} {a : Act} {Q : Exit → Act → World → Prop}
theorem replicate_bv (n : Nat) : (madeCells (Value.bool false).cells (n * 1)).toList = (List.replicate n false).map bv := by
  show (madeCells #[Value.bool false] (n * 1)).toList = _
  rw [toList_madeCells_one, Nat.mul_one, List.map_replicate]; rfl
/-- make([]bool, n). -/
theorem make_bools (hg : o.guard = none) (l c : Operand) (hop : o.op = Op.makeSlice 72 l c) (n : Nat) (hl : a.eval l = .int .i64 (n : Int)) (hc : a.eval c = .int .i64 (n : Int)) (hn : n ≤ 1099511627776)
    (hK : ∀ w', w'.ownsRow w.heap.size 4 1 (.slice (some ⟨w.heap.size, 0, none⟩) n n) n ((List.replicate n false).map bv) → Below w.heap.size w w' →
      wpList Try.prog ops Q rest (a.put o.dst (.slice (some ⟨w.heap.size, 0, none⟩) n n)) w') : wpList Try.prog ops Q (o :: rest) a w := by
  obtain ⟨i0, hi, hz0, hz1, hz2⟩ := info_parts info_bool
  refine wpList_make_full w hg l c _ hop w.heap.size _ i0 _ 1 Try.underlying72 hi hz0 hz1 _ _ _ _ n hl hc rfl rfl (by rw [hz2]; omega) (by unfold maxLen; omega) (Nat.le_refl _) ?_
  intro w' h1 h2
  rw [replicate_bv] at h1
  exact hK w' h1 ((Below.refl _ _).grown h2 (Nat.le_refl _) (by simp))
end
/-- New marks. -/
def NewMarks (w : World) (ms : List Bool) (e : Ending) (w' : World) : Prop := NewRow w 4 1 ms.length (ms.map bv) e w'
theorem newMarks_of {w w' : World} {n : Nat} {P : Nat → Prop} {A : Option Addr} {c : Nat} (ho : w'.ownsRow w.heap.size 4 1 (.slice A n c) n ((markL n P).map bv)) (hb : Below w.heap.size w w') : NewMarks w (markL n P) (.returned (.slice A n c)) w' :=
  ⟨A, c, by rw [markL_len], by rw [markL_len]; exact ho, hb⟩
theorem own_below0 {w w' : World} {base : Nat} {t : TypeId} {v : Value} {n : Nat} {xs : List Value} (h : w.ownsRow base t 1 v n xs) (hb : Below w.heap.size w w') : w'.ownsRow base t 1 v n xs := own_below h hb

theorem reach_any {B : Nat} (g : Nat) (v : CV) (k : Cd) (a : Nat) (w : World) (hr : Right k) (hk : CodeAt w B v k) (hg : KAt w g v k) (ha : a < k.ins.length) :
    Calls Try.prog 77 #[.pointer (some ⟨g, 0, none⟩), .int .i64 a] w (NewMarks w (markL k.ins.length (Reach (nextL k) a))) := by
  have hins := hr.ins
  have hgl : g < w.heap.size := World.block_lt_of_cell? w _ hg.1
  have HS := Lib.hid (fun W (hb : Below w.heap.size w W) ho => spread_any (B := w.heap.size) (base := w.heap.size) g w.heap.size k.ins.length v k a (List.replicate k.ins.length false) W hr (hk.full.below hb) (Nat.le_refl _) (hg.to hb) (by omega) ha ho)
  obtain ⟨c0, c1, c2, c3, c4⟩ := hg
  clear hr hk
  have fin : ∀ ms' W w', Srch (nextL k) a (List.replicate k.ins.length false) ms' [] → w'.ownsRow w.heap.size 4 1 (.slice (some ⟨w.heap.size, 0, none⟩) k.ins.length k.ins.length) k.ins.length (ms'.map bv) → Below w.heap.size w W → W.grownBy w' (some w.heap.size) →
      NewMarks w (markL k.ins.length (Reach (nextL k) a)) (.returned (.slice (some ⟨w.heap.size, 0, none⟩) k.ins.length k.ins.length)) w' := by
    intro ms' W w' h1 h2 h3 h4
    have e := h1.fresh
    subst e
    refine ⟨some ⟨w.heap.size, 0, none⟩, k.ins.length, by rw [markL_len], by rw [markL_len]; exact h2, ?_⟩
    exact h3.trans (below_grown h4 h3.size (Nat.le_refl _))
  go_enter Try.func77, Try.ntmps77
  go_wp2_with (at_make; refine make_bools _ rfl _ _ rfl k.ins.length rfl rfl (by omega) ?_; intro w1 hown hb)
  refine (HS.out _ hb hown).mono ?_
  rintro e w2 ⟨rfl, ms', h1, h2, h3⟩
  go_wp2_with fail
  go_ret
  exact fin _ _ _ h1 h2 hb h3

/-- The cells of marks, one by one. -/
theorem Rd.mark {w : World} {B : Nat} {A : Option Addr} {ms : List Bool} (h : Rd w B A (ms.map bv)) {j : Nat} (hj : j < ms.length) : ∃ ad, A = some ad ∧ ad.block < B ∧ w.cell? (ad.add j) = some (.bool (mkd ms j)) := by
  obtain ⟨ad, e, hb, hc⟩ := h.bool hj
  rw [mkd_get hj] at hc
  exact ⟨ad, e, hb, hc⟩
theorem nv_snoc (xs : List Nat) (x : Nat) : nv (xs ++ [x]) = ((xs.map natI) ++ [(x : Int)]).map iv := by simp [nv, natI]

theorem marked_any {B : Nat} (A : Option Addr) (c : Nat) (ms : List Bool) (w : World) (h : Rd w B A (ms.map bv)) (hn : ms.length ≤ 1099511627776) :
    Calls Try.prog 92 #[.slice A ms.length c] w (NewNats w (listN ms.length fun i => mkd ms i = true)) := by
  have h0 := h.full
  clear h
  go_enter Try.func92, Try.ntmps92
  go_wp2_with fail
  go_loopg [3, 8] ms.length (fun l out i wr => ∃ j : Nat, j ≤ ms.length ∧ l = ms.length - j ∧ i = .int .i64 j ∧ wr.ownsRow w.heap.size 3 1 out (listN j fun i => mkd ms i = true).length (nv (listN j fun i => mkd ms i = true)) ∧ Below w.heap.size w wr)
  case atStart => exact ⟨0, by omega, by omega, rfl, World.ownsRow_nil _ _ _ _, Below.refl _ _⟩
  case round =>
    obtain ⟨j, hj, rfl, rfl, ho, hb⟩ := hrel
    obtain ⟨Ao, co, rfl⟩ := own_form ho
    have hsz := hb.size
    have hll := listN_len j fun i => mkd ms i = true
    by_cases hlt : j < ms.length
    · obtain ⟨ad, rfl, _, hc⟩ := (h0.below hb).mark hlt
      have HS := Lib.hid (listN_succ j fun i => mkd ms i = true)
      cases hm : mkd ms j
      · rw [hm] at hc
        have HM := Lib.hid hm
        clear hm
        go_wp2_with fail
        go_roundg (ms.length - (j + 1))
        case measure => omega
        case rel => exact ⟨j + 1, by omega, rfl, by go_num, by rw [HS.out, if_neg (by rw [HM.out]; simp)]; exact ho, hb⟩
      · rw [hm] at hc
        have HM := Lib.hid hm
        clear hm
        go_wp2_with (at_builtin; refine append_int rfl _ _ rfl ho rfl rfl (by omega) hsz ?_; intro A' c' w1 ho1 hg1 _)
        go_roundg (ms.length - (j + 1))
        case measure => omega
        case rel => exact ⟨j + 1, by omega, rfl, by go_num, by rw [HS.out, if_pos HM.out, nv_snoc, List.length_append]; exact ho1, below_append hb ho hg1 hsz (Nat.le_refl _)⟩
    · obtain rfl : j = ms.length := by omega
      go_wp2_with fail
      go_ret
      exact ⟨Ao, co, rfl, ho, hb⟩
end Go.Proofs.Ytjnlmiekldflhaa
