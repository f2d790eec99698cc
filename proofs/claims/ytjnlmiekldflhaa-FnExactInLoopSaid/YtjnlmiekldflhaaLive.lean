/- Contract of liveOf; unionOf; isProc; mainProc. -/
import Derived.Test.YtjnlmiekldflhaaReachS
set_option linter.unusedSimpArgs false
set_option linter.unusedVariables false
namespace Go.Proofs.Ytjnlmiekldflhaa
open Go.ChangeShapes Go.WideShapes Go.ChangeAt Go.RowKit

theorem listN_cut {n m : Nat} {P : Nat → Prop} (hm : m ≤ n) (h : ∀ i, m ≤ i → i < n → ¬ P i) : listN n P = listN m P := by
  induction n with
  | zero => rw [show m = 0 from by omega]
  | succ n ih =>
    rcases Nat.lt_or_ge n m with h1 | h1
    · rw [show m = n + 1 from by omega]
    · rw [listN_succ, if_neg (h n h1 (by omega)), ih h1 fun i hi hn => h i hi (by omega)]
theorem listN_none {n : Nat} {P : Nat → Prop} (h : ∀ i, i < n → ¬ P i) : listN n P = [] := by
  rw [listN_cut (m := 0) (by omega) fun i _ hi => h i hi]
  rfl
theorem mkd_markL_pos {n : Nat} {P : Nat → Prop} {b : Nat} (h : b < n) (hp : P b) : mkd (markL n P) b = true := mkd_markL_true.2 ⟨h, hp⟩
theorem mkd_markL_neg {n : Nat} {P : Nat → Prop} {b : Nat} (hp : ¬ P b) : mkd (markL n P) b = false := by
  cases h : mkd (markL n P) b
  · rfl
  · exact absurd (mkd_markL_true.1 h).2 hp
theorem live_list {k : Cd} (hr : Right k) {p : Nat} (hp : p < k.procs.length) : listN (fin k p) (fun x => ent k p ≤ x ∧ LiveA k x) = listN k.ins.length (LiveP k p) := by
  have hl := hr.lt p hp
  rw [listN_cut (n := k.ins.length) (m := fin k p) hl.2 fun i h1 h2 h3 => by have := (live_in hr hp h3).2.2.2; omega]
  apply listN_congr
  intro i hi
  constructor
  · rintro ⟨h1, h2⟩
    have e := procN_of hr hp h1 hi
    unfold LiveA at h2
    rw [e] at h2
    exact h2
  · intro h
    have := live_in hr hp h
    refine ⟨this.2.2.1, ?_⟩
    unfold LiveA
    rw [this.2.1]
    exact h
/-- What a world's block says of what is live. -/
def LvAt (W : World) (B g : Nat) (k : Cd) : Prop := ∃ A c, W.cell? ⟨g, 5, none⟩ = some (.slice A k.ins.length c) ∧ Rd W B A ((markL k.ins.length (LiveA k)).map bv)
theorem LvAt.below {W W' : World} {B g : Nat} {k : Cd} (h : LvAt W B g k) (hb : Below W.heap.size W W') (hB : B ≤ W.heap.size) : LvAt W' B g k := by
  obtain ⟨A, c, h1, h2⟩ := h
  exact ⟨A, c, cell_below hb h1, h2.below (hb.mono hB)⟩
theorem LvAt.full {W : World} {B g : Nat} {k : Cd} (h : LvAt W B g k) : LvAt W W.heap.size g k := by
  obtain ⟨A, c, h1, h2⟩ := h
  exact ⟨A, c, h1, h2.full⟩

set_option maxHeartbeats 1000000 in
theorem liveOf_any {B : Nat} (g : Nat) (v : CV) (k : Cd) (p : Nat) (w : World) (hr : Right k) (hk : CodeAt w B v k) (hg : KAt w g v k) (hl : LvAt w B g k) (hp : p < k.procs.length) :
    Calls Try.prog 91 #[.pointer (some ⟨g, 0, none⟩), .int .i64 p] w (NewNats w (listN k.ins.length (LiveP k p))) := by
  have hkf := hk.full
  have hlf := hl.full
  have hins := hr.ins
  have hpl := hr.procs
  have hlt := hr.lt p hp
  obtain ⟨ad, ee, hbe, hce⟩ := entry_cell hr hkf hp
  have HEE := Lib.hid ee
  have hel : p < k.entry.length := by have := hr.entry; omega
  have hen : k.entry.length ≤ 8 := by have := hr.entry; omega
  have HF := Lib.hid (hr.fin_eq p hp)
  have HLL := Lib.hid (live_list hr hp)
  have HEP := Lib.hid (fun W (h : CodeAt W w.heap.size v k) => endOfProc_any v k p W h (by omega) (by omega) (by omega))
  have hg0 := hg
  obtain ⟨c0, c1, c2, c3, c4⟩ := hg
  rw [ee] at c3
  have z1 : (0 : Int) ≤ (p : Int) := by omega
  have z2 : (p : Int) < (k.entry.length : Int) := by omega
  clear hk hr ee hl
  go_enter Try.func91, Try.ntmps91
  go_wp2_with fail
  clear c0 c1 c2 c3 c4
  have hat : listN (ent k p) (fun x => ent k p ≤ x ∧ LiveA k x) = [] := listN_none fun i hi h => by omega
  go_loopg [5, 6] (fin k p - ent k p) (fun l out i wr => ∃ a : Nat, ent k p ≤ a ∧ a ≤ fin k p ∧ l = fin k p - a ∧ i = .int .i64 a ∧ wr.ownsRow w.heap.size 3 1 out (listN a fun x => ent k p ≤ x ∧ LiveA k x).length (nv (listN a fun x => ent k p ≤ x ∧ LiveA k x)) ∧ Below w.heap.size w wr)
  case atStart => exact ⟨ent k p, by omega, by omega, rfl, rfl, by rw [hat]; exact World.ownsRow_nil _ _ _ _, Below.refl _ _⟩
  case round =>
    clear hat
    obtain ⟨a, ha1, ha2, rfl, rfl, ho, hb⟩ := hrel
    obtain ⟨Ao, co, rfl⟩ := own_form ho
    have hsz := hb.size
    have hll := listN_len a fun x => ent k p ≤ x ∧ LiveA k x
    obtain ⟨c0, c1, c2, c3, c4⟩ := hg0.to hb
    go_wp2_with fail
    refine (HEP.out _ (hkf.below hb)).mono ?_
    rintro e w1 ⟨rfl, hb1⟩
    rw [HF.out]
    have hb01 := below_trans' hb hb1
    have ho1 := own_below ho hb1
    have hsz1 := hb01.size
    clear c0 c1 c2 c3 c4
    by_cases hlt2 : a < fin k p
    · obtain ⟨A, c, h5, hrd⟩ := hlf.below hb01 (Nat.le_refl _)
      obtain ⟨adl, rfl, hbl, hc⟩ := hrd.mark (j := a) (by rw [markL_len]; omega)
      have y1 : (0 : Int) ≤ (a : Int) := by omega
      have y2 : (a : Int) < (k.ins.length : Int) := by omega
      have HS := Lib.hid (listN_succ a fun x => ent k p ≤ x ∧ LiveA k x)
      by_cases hm : LiveA k a
      · rw [mkd_markL_pos (by omega) hm] at hc
        have HM := Lib.hid hm
        clear hm
        go_wp2_with (at_builtin; refine append_int rfl _ _ rfl ho1 rfl rfl (by omega) hsz1 ?_; intro A' c' w2 ho2 hg2 _)
        go_roundg (fin k p - (a + 1))
        case measure => omega
        case rel => exact ⟨a + 1, by omega, by omega, rfl, by go_num, by rw [HS.out, if_pos ⟨ha1, HM.out⟩, nv_snoc, List.length_append]; exact ho2, below_append hb01 ho1 hg2 hsz1 (Nat.le_refl _)⟩
      · rw [mkd_markL_neg hm] at hc
        have HM := Lib.hid hm
        clear hm
        go_wp2_with fail
        go_roundg (fin k p - (a + 1))
        case measure => omega
        case rel => exact ⟨a + 1, by omega, by omega, rfl, by go_num, by rw [HS.out, if_neg fun h => HM.out h.2]; exact ho1, hb01⟩
    · obtain rfl : a = fin k p := by omega
      go_wp2_with fail
      go_ret
      rw [HLL.out] at ho1 ⊢
      exact ⟨Ao, co, rfl, ho1, hb01⟩
end Go.Proofs.Ytjnlmiekldflhaa
