/- Contracts of l10Ops; CallsOf and SpawnsOf, of the program and of the reference. -/
import Derived.Test.YtkgoajnnkimkaaaGreatD1
set_option linter.unusedSimpArgs false
set_option linter.unusedVariables false
namespace Go.Proofs.YtkgoajnnkimkaaaGreat
open Go.ChangeShapes Go.WideShapes Go.ChangeAt Go.RowKit

theorem bitsTo_setN {n : Nat} {P : Nat → Prop} (hn : n ≤ 62) : bitsTo (setN n P) 62 = listN n P := by
  rw [bitsTo_stop (setN n P) n 62 (setN_lt n P) hn]
  unfold bitsTo listN
  apply List.filter_congr
  intro i hi
  simp only [List.mem_range] at hi
  rw [testBit_setN]
  simp [hi]
/-- Among the first i places. -/
def OpsTo (k : Cd) (o : Int) (p i q : Nat) : Prop := ∃ a, a < i ∧ LiveP k p a ∧ opN k a = o ∧ argN k a = q
theorem opsTo_zero (k : Cd) (o : Int) (p n : Nat) : markL n (OpsTo k o p 0) = List.replicate n false := by
  refine (eq_markL (by simp) fun b _ => ?_).symm
  rw [mkd_replicate]
  simp [OpsTo]
theorem opsTo_skip {k : Cd} {o : Int} {p i n : Nat} (h : ¬ (LiveP k p i ∧ opN k i = o)) : markL n (OpsTo k o p (i + 1)) = markL n (OpsTo k o p i) :=
  markL_congr fun q _ => ⟨fun ⟨a, h1, h2, h3, h4⟩ => by
    rcases Nat.lt_or_ge a i with h5 | h5
    · exact ⟨a, h5, h2, h3, h4⟩
    · have e : a = i := by omega
      subst e
      exact absurd ⟨h2, h3⟩ h, fun ⟨a, h1, h2⟩ => ⟨a, by omega, h2⟩⟩
theorem opsTo_set {k : Cd} {o : Int} {p i n : Nat} (h1 : LiveP k p i) (h2 : opN k i = o) (hl : argN k i < n) : (markL n (OpsTo k o p i)).set (argN k i) true = markL n (OpsTo k o p (i + 1)) := by
  refine eq_markL (by rw [List.length_set, markL_len]) fun q hq => ?_
  rw [mkd_set (by rw [markL_len]; exact hl)]
  by_cases e : argN k i = q
  · subst e
    simp only [if_true, true_iff]
    exact ⟨i, by omega, h1, h2, rfl⟩
  · rw [if_neg e, mkd_markL_true]
    constructor
    · rintro ⟨_, a, h3, h4⟩
      exact ⟨a, by omega, h4⟩
    · rintro ⟨a, h3, h4, h5, h6⟩
      refine ⟨hq, a, ?_, h4, h5, h6⟩
      rcases Nat.lt_or_ge a i with h7 | h7
      · exact h7
      · have e2 : a = i := by omega
        subst e2
        exact absurd h6 e
theorem opsTo_all {k : Cd} (hr : Right k) {o : Int} {p : Nat} (hp : p < k.procs.length) (n : Nat) : markL n (OpsTo k o p k.ins.length) = markL n (OpsP k o p) :=
  markL_congr fun q _ => ⟨fun ⟨a, _, h⟩ => ⟨a, h⟩, fun ⟨a, h1, h2⟩ => ⟨a, (live_in hr hp h1).1, h1, h2⟩⟩

set_option maxHeartbeats 1000000 in
theorem l10Ops_any {B : Nat} (v : CV) (k : Cd) (p : Nat) (o : Int) (w : World) (hr : Right k) (hk : CodeAt w B v k) (hp : p < k.procs.length) (ho : o = 4 ∨ o = 5) :
    Calls Tryz.prog 130 #[.agg #[.slice v.gA k.globals.length v.gc, .slice v.lA k.locks.length v.lc, .slice v.pA k.procs.length v.pc, .slice v.eA k.entry.length v.ec, .slice v.iA k.ins.length v.ic], .int .i64 p, .int .i64 o] w (NewNats w (listN k.procs.length (OpsP k o p))) := by
  have hkf := hk.full
  have hbx := codeBox w v k
  have hins := hr.ins
  have hpl := hr.procs
  have HLV := Lib.hid (fun W (h : CodeAt W w.heap.size v k) => l09Live_any v k p W hr h hp)
  have HR := Lib.hid hr
  have HO := Lib.hid ho
  clear hk hr ho
  go_enter Tryz.func130, Tryz.ntmps130
  go_wp2_with fail
  generalize w.alloc (.cells #[.slice v.gA k.globals.length v.gc, .slice v.lA k.locks.length v.lc, .slice v.pA k.procs.length v.pc, .slice v.eA k.entry.length v.ec, .slice v.iA k.ins.length v.ic] 28) = W at hbx ⊢
  refine (HLV.out _ (hkf.below hbx.1)).mono ?_
  rintro e w1 ⟨Al, cl, rfl, hol, hb1⟩
  have hbx1 := hbx.to hb1
  have hrl := own_rd hol
  rw [markL_len]
  obtain ⟨q1, q2, c0, c1, c2, c3, c4⟩ := id hbx1
  clear hbx hb1 hol
  go_wp2_with (at_make; refine make_bools _ rfl _ _ rfl k.procs.length rfl rfl (by omega) ?_; intro w2 hown hb2)
  clear q1 q2 c0 c1 c2 c3 c4
  have hbx2 := hbx1.to hb2
  rw [← opsTo_zero k o p] at hown
  go_loopg [9] k.ins.length (fun l i wr => ∃ j : Nat, j ≤ k.ins.length ∧ l = k.ins.length - j ∧ i = .int .i64 j ∧ Below w1.heap.size w1 wr ∧ wr.ownsRow w1.heap.size 4 1 (.slice (some ⟨w1.heap.size, 0, none⟩) k.procs.length k.procs.length) k.procs.length ((markL k.procs.length (OpsTo k o p j)).map bv))
  case atStart => exact ⟨0, by omega, by omega, rfl, hb2, hown⟩
  case round =>
    clear hown hbx2 hb2
    obtain ⟨j, hj, rfl, rfl, hb, hown⟩ := hrel
    have hbxr := hbx1.to hb
    have hkr := hkf.below hbxr.1
    obtain ⟨q1, q2, c0, c1, c2, c3, c4⟩ := id hbxr
    by_cases hlt : j < k.ins.length
    · obtain ⟨adl, rfl, hbl, hcl⟩ := (hrl.below hb).mark (j := j) (by rw [markL_len]; exact hlt)
      obtain ⟨ai, A', c', eA, hbi, k0, k1, k2, k3, k4, k5, k6, _⟩ := hkr.full.i.get hlt
      rw [opN_eq hlt] at k0
      rw [argN_eq HR.out hlt] at k1
      rw [eA] at c4
      have z1 : (0 : Int) ≤ (j : Int) := by omega
      have z2 : (j : Int) < (k.ins.length : Int) := by omega
      by_cases hlv : LiveP k p j
      · rw [mkd_markL_pos hlt hlv] at hcl
        by_cases hop : opN k j = o
        · have hal := argN_lt HR.out hlt (by rw [hop]; exact HO.out)
          have e1 : (opN k j == o) = true := by simpa using hop
          have HS := Lib.hid (opsTo_set (n := k.procs.length) hlv hop hal)
          have fz := hown.frozenAt (argN k j)
          obtain ⟨u, hu⟩ := own_has hown (j := argN k j) (by omega)
          obtain ⟨s1, s2⟩ := hown.stored (argN k j) (bv true)
          have y1 : (0 : Int) ≤ (argN k j : Int) := by omega
          have y2 : (argN k j : Int) < (k.procs.length : Int) := by omega
          rw [bv_set, HS.out] at s1
          have hb3 : Below w1.heap.size w1 (wr.setCell ⟨w1.heap.size, argN k j, none⟩ (bv true)) := hb.setCell (Nat.le_refl _) _
          have HS1 := Lib.hid s1
          have HB3 := Lib.hid hb3
          clear hop s1 s2 hb3
          go_wp2_with fail
          go_roundg (k.ins.length - (j + 1))
          case measure => omega
          case rel => exact ⟨j + 1, by omega, rfl, by go_num, HB3.out, HS1.out⟩
        · have e1 : (opN k j == o) = false := by simpa using hop
          have HS := Lib.hid (opsTo_skip (n := k.procs.length) (fun h : LiveP k p j ∧ opN k j = o => hop h.2))
          clear hop
          go_wp2_with fail
          go_roundg (k.ins.length - (j + 1))
          case measure => omega
          case rel => exact ⟨j + 1, by omega, rfl, by go_num, hb, by rw [HS.out]; exact hown⟩
      · rw [mkd_markL_neg hlv] at hcl
        have HS := Lib.hid (opsTo_skip (n := k.procs.length) (fun h : LiveP k p j ∧ opN k j = o => hlv h.1))
        go_wp2_with fail
        go_roundg (k.ins.length - (j + 1))
        case measure => omega
        case rel => exact ⟨j + 1, by omega, rfl, by go_num, hb, by rw [HS.out]; exact hown⟩
    · obtain rfl : j = k.ins.length := by omega
      rw [opsTo_all HR.out hp] at hown
      have HD := l09Marked_any (some ⟨w1.heap.size, 0, none⟩) k.procs.length (markL k.procs.length (OpsP k o p)) wr (own_rd hown) (by rw [markL_len]; omega)
      rw [listN_markL, markL_len] at HD
      have HD := Lib.hid HD
      go_wp2_with fail
      refine HD.out.mono ?_
      rintro e w4 ⟨A4, c4', rfl, ho4, hb4⟩
      go_wp2_with fail
      go_ret
      exact NewNats.more ⟨A4, c4', rfl, ho4, hb4⟩ hbxr.1 rfl
end Go.Proofs.YtkgoajnnkimkaaaGreat
