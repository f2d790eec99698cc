/- Contract of worldOf: what is told of a right code's flow. -/
import Derived.Test.YtkgoajnnkimkaaaGreatC3
set_option linter.unusedSimpArgs false
set_option linter.unusedVariables false
namespace Go.Proofs.YtkgoajnnkimkaaaGreat
open Go.ChangeShapes Go.WideShapes Go.ChangeAt Go.RowKit

/-- A table of small numbers behind cell j of block g. -/
def TabAt (W : World) (B g j : Nat) (xs : List Nat) : Prop := ∃ A c, W.cell? ⟨g, j, none⟩ = some (.slice A xs.length c) ∧ Rd W B A (nv xs)
theorem TabAt.below {W W' : World} {B g j : Nat} {xs : List Nat} (h : TabAt W B g j xs) (hb : Below W.heap.size W W') (hB : B ≤ W.heap.size) : TabAt W' B g j xs := by
  obtain ⟨A, c, h1, h2⟩ := h
  exact ⟨A, c, cell_below hb h1, h2.below (hb.mono hB)⟩
theorem TabAt.full {W : World} {B g j : Nat} {xs : List Nat} (h : TabAt W B g j xs) : TabAt W W.heap.size g j xs := by
  obtain ⟨A, c, h1, h2⟩ := h
  exact ⟨A, c, h1, h2.full⟩
/-- A world in block g. -/
structure WAt (W : World) (B g : Nat) (v : CV) (k : Cd) : Prop where
  code : CodeAt W B v k
  kat : KAt W g v k
  live : LvAt W B g k
  calls : TabAt W B g 6 (tabL k (opsT k 4))
  spawns : TabAt W B g 7 (tabL k (opsT k 5))
  frm : TabAt W B g 8 (tabL k (fromT k))
  roots : W.cell? ⟨g, 9, none⟩ = some (.int .i64 (rootsN k : Nat))
  used : W.cell? ⟨g, 10, none⟩ = some (.int .i64 (usedS k : Nat))
theorem WAt.full {W : World} {B g : Nat} {v : CV} {k : Cd} (h : WAt W B g v k) : WAt W W.heap.size g v k :=
  ⟨h.code.full, h.kat, h.live.full, h.calls.full, h.spawns.full, h.frm.full, h.roots, h.used⟩
theorem WAt.below {W W' : World} {g : Nat} {v : CV} {k : Cd} (h : WAt W W.heap.size g v k) (hb : Below W.heap.size W W') : WAt W' W'.heap.size g v k :=
  ⟨(h.code.below hb).full, h.kat.to hb, (h.live.below hb (Nat.le_refl _)).full, (h.calls.below hb (Nat.le_refl _)).full, (h.spawns.below hb (Nat.le_refl _)).full, (h.frm.below hb (Nat.le_refl _)).full, cell_below hb h.roots, cell_below hb h.used⟩

/-- Live, and of one of the first p procedures. -/
def LiveTo (k : Cd) (p a : Nat) : Prop := procN k a < p ∧ LiveA k a
theorem live_step {k : Cd} (hr : Right k) {p : Nat} (hp : p < k.procs.length) {ms : List Bool} (h : Srch (nextL k) (ent k p) ((markL k.ins.length (LiveTo k p)).set (ent k p) true) ms []) : ms = markL k.ins.length (LiveTo k (p + 1)) := by
  have hel := ent_lt hr hp
  have hm : ∀ x, mkd ((markL k.ins.length (LiveTo k p)).set (ent k p) true) x = true ↔ x = ent k p ∨ (x < k.ins.length ∧ LiveTo k p x) := fun x => by
    rw [mkd_set (by rw [markL_len]; exact hel)]
    by_cases e : ent k p = x
    · simp [e]
    · rw [if_neg e, mkd_markL_true]
      constructor
      · intro h; exact .inr h
      · rintro (h | h)
        · exact absurd h.symm e
        · exact h
  refine eq_markL (by rw [h.len, List.length_set, markL_len]) fun b hb => ⟨fun h1 => ?_, fun h1 => ?_⟩
  · rcases h.frm b h1 with h2 | h2
    · rcases (hm b).1 h2 with rfl | ⟨_, h3⟩
      · refine ⟨by rw [procN_ent hr hp]; omega, ?_⟩
        unfold LiveA
        rw [procN_ent hr hp]
        exact .refl _ _
      · exact ⟨by have := h3.1; omega, h3.2⟩
    · have h3 := reach_in hr hel h2
      rw [procN_ent hr hp] at h3
      refine ⟨by omega, ?_⟩
      unfold LiveA
      rw [h3.2]
      exact .inr h2
  · obtain ⟨h2, h3⟩ := h1
    rcases Nat.lt_or_ge (procN k b) p with h4 | h4
    · exact h.up b ((hm b).2 (.inr ⟨hb, h4, h3⟩))
    · have e : procN k b = p := by omega
      unfold LiveA at h3
      rw [e] at h3
      rcases h3 with rfl | h3
      · exact h.up _ ((hm _).2 (.inl rfl))
      · refine h.all b h3 fun x hx hne n hn => ?_
        rcases (hm x).1 hx with h5 | ⟨h5, h6, h7⟩
        · exact absurd h5 hne
        · have h8 := nextL_in hr h5 hn
          refine (hm n).2 (.inr ⟨h8.1, by rw [h8.2]; exact h6, ?_⟩)
          unfold LiveA
          rw [h8.2]
          exact Comes.step h7 hn
theorem live_to_all {k : Cd} (hr : Right k) : markL k.ins.length (LiveTo k k.procs.length) = markL k.ins.length (LiveA k) :=
  markL_congr fun i hi => ⟨fun h => h.2, fun h => ⟨(hr.proc i hi).1, h⟩⟩
theorem live_to_none (k : Cd) : markL k.ins.length (LiveTo k 0) = List.replicate k.ins.length false := by
  refine (eq_markL (by simp) fun b _ => ?_).symm
  rw [mkd_replicate]
  simp [LiveTo]

theorem Rd.low {w : World} {B B' : Nat} {ad : Addr} {xs : List Value} (h : Rd w B (some ad) xs) (hb : ad.block < B') : Rd w B' (some ad) xs := fun j u hu => by
  obtain ⟨ad', e, _, hc⟩ := h j u hu
  injection e with e
  subst e
  exact ⟨ad, rfl, hb, hc⟩
/-- Inside worldOf, the first p procedures done. -/
structure WL (w : World) (v : CV) (k : Cd) (g gl p : Nat) (wr : World) : Prop where
  blk : WB wr g v k (.slice (some ⟨gl, 0, none⟩) k.ins.length k.ins.length) (.slice none 0 0) (.slice none 0 0) (.slice none 0 0) (.int .i64 0) (.int .i64 0)
  row : wr.ownsRow w.heap.size 4 1 (.slice (some ⟨gl, 0, none⟩) k.ins.length k.ins.length) k.ins.length ((markL k.ins.length (LiveTo k p)).map bv)
  below : Below w.heap.size w wr
  lt : gl < g

theorem worldOf_no {B L : Nat} (v : CV) (k : Cd) (w : World) (hk : CodeAt w B v k) (hcb : CdB L k) (hL : L ≤ 1099511627776) (hno : codeOkI k = false) :
    Calls Tryz.prog 82 #[.agg #[.slice v.gA k.globals.length v.gc, .slice v.lA k.locks.length v.lc, .slice v.pA k.procs.length v.pc, .slice v.eA k.entry.length v.ec, .slice v.iA k.ins.length v.ic]] w fun e w' => e = .returned (.tuple #[.pointer none, .bool false]) ∧ Below w.heap.size w w' := by
  have hbx := below_alloc0 w (.cells #[.slice v.gA k.globals.length v.gc, .slice v.lA k.locks.length v.lc, .slice v.pA k.procs.length v.pc, .slice v.eA k.entry.length v.ec, .slice v.iA k.ins.length v.ic] 28)
  have HC := codeOk_i v k (w.alloc (.cells #[.slice v.gA k.globals.length v.gc, .slice v.lA k.locks.length v.lc, .slice v.pA k.procs.length v.pc, .slice v.eA k.entry.length v.ec, .slice v.iA k.ins.length v.ic] 28)) (hk.full.below hbx) hcb hL
  rw [hno] at HC
  have HC := Lib.hid HC
  clear hno hcb
  go_enter Tryz.func82, Tryz.ntmps82
  go_wp2_with fail
  refine HC.out.mono ?_
  rintro e w1 ⟨rfl, hb1⟩
  go_wp2_with fail
  go_ret2
  exact ⟨rfl, below_trans' hbx hb1⟩

theorem wl_below (w1 : World) (v : CV) (k : Cd) : Below w1.heap.size w1 ((w1.alloc (.cells (madeCells #[.bool false] k.ins.length) 4)).alloc (.cells #[.slice v.gA k.globals.length v.gc, .slice v.lA k.locks.length v.lc, .slice v.pA k.procs.length v.pc, .slice v.eA k.entry.length v.ec, .slice v.iA k.ins.length v.ic, .slice (some ⟨w1.heap.size, 0, none⟩) k.ins.length k.ins.length, .slice none 0 0, .slice none 0 0, .slice none 0 0, .int .i64 0, .int .i64 0] 89)).drew :=
  (below_trans' (below_alloc0 _ _) (below_alloc0 _ _)).drew
theorem wl_start {w w1 : World} {v : CV} {k : Cd} (hb : Below w.heap.size w w1) (hn : k.ins.length ≤ 1500) : WL w v k (w1.heap.size + 1) w1.heap.size 0 ((w1.alloc (.cells (madeCells #[.bool false] k.ins.length) 4)).alloc (.cells #[.slice v.gA k.globals.length v.gc, .slice v.lA k.locks.length v.lc, .slice v.pA k.procs.length v.pc, .slice v.eA k.entry.length v.ec, .slice v.iA k.ins.length v.ic, .slice (some ⟨w1.heap.size, 0, none⟩) k.ins.length k.ins.length, .slice none 0 0, .slice none 0 0, .slice none 0 0, .int .i64 0, .int .i64 0] 89)).drew := by
  have hbb := wl_below w1 v k
  have e0 := heap_alloc_new w1 (.cells (madeCells #[.bool false] k.ins.length) 4)
  have s0 : (w1.alloc (.cells (madeCells #[.bool false] k.ins.length) 4)).heap.size = w1.heap.size + 1 := by simp
  generalize w1.alloc (.cells (madeCells #[.bool false] k.ins.length) 4) = W1 at *
  have e1 := heap_alloc_new W1 (.cells #[.slice v.gA k.globals.length v.gc, .slice v.lA k.locks.length v.lc, .slice v.pA k.procs.length v.pc, .slice v.eA k.entry.length v.ec, .slice v.iA k.ins.length v.ic, .slice (some ⟨w1.heap.size, 0, none⟩) k.ins.length k.ins.length, .slice none 0 0, .slice none 0 0, .slice none 0 0, .int .i64 0, .int .i64 0] 89)
  have b1 := below_alloc0 W1 (.cells #[.slice v.gA k.globals.length v.gc, .slice v.lA k.locks.length v.lc, .slice v.pA k.procs.length v.pc, .slice v.eA k.entry.length v.ec, .slice v.iA k.ins.length v.ic, .slice (some ⟨w1.heap.size, 0, none⟩) k.ins.length k.ins.length, .slice none 0 0, .slice none 0 0, .slice none 0 0, .int .i64 0, .int .i64 0] 89)
  rw [s0] at e1
  refine ⟨e1, ⟨by simp [markL_len], .inr ⟨w1.heap.size, k.ins.length, _, rfl, hb.size, (b1.block _ (by omega)).trans e0, Nat.le_refl _, by unfold maxLen; omega, by simp [size_madeCells], ?_⟩⟩, below_trans' hb hbb, by omega⟩
  rw [toList_madeCells_one, Nat.mul_one, List.take_of_length_le (by simp), live_to_none, List.map_replicate]
  rfl

/-- What worldOf answers of right code. -/
def WorldNew (w : World) (v : CV) (k : Cd) (e : Ending) (w' : World) : Prop :=
  ∃ g, e = .returned (.tuple #[.pointer (some ⟨g, 0, none⟩), .bool true]) ∧ w.heap.size ≤ g ∧ WAt w' w'.heap.size g v k ∧ Below w.heap.size w w'

set_option maxRecDepth 100000 in
set_option maxHeartbeats 2000000 in
theorem worldOf_yes {B L : Nat} (v : CV) (k : Cd) (w : World) (hk : CodeAt w B v k) (hcb : CdB L k) (hL : L ≤ 1099511627776) (hok : codeOkI k = true) :
    Calls Tryz.prog 82 #[.agg #[.slice v.gA k.globals.length v.gc, .slice v.lA k.locks.length v.lc, .slice v.pA k.procs.length v.pc, .slice v.eA k.entry.length v.ec, .slice v.iA k.ins.length v.ic]] w (WorldNew w v k) := by
  have hr := right_of hok
  have hins := hr.ins
  have hpl := hr.procs
  have hkf := hk.full
  have hbx := codeBox w v k
  have HC := codeOk_i v k (w.alloc (.cells #[.slice v.gA k.globals.length v.gc, .slice v.lA k.locks.length v.lc, .slice v.pA k.procs.length v.pc, .slice v.eA k.entry.length v.ec, .slice v.iA k.ins.length v.ic] 28)) (hkf.below hbx.1) hcb hL
  rw [hok] at HC
  have HC := Lib.hid HC
  have HR := Lib.hid hr
  have HEL := Lib.hid hr.entry
  have hel : k.entry.length ≤ 8 := by have := hr.entry; omega
  have hmk := run_make_row' (P := Tryz.prog) 87 4 (.bool false) 1 Tryz.underlying87 info_bool rfl .i64 .i64 k.ins.length (by omega) (by omega)
  clear hok hcb hk hr
  go_enter Tryz.func82, Tryz.ntmps82
  go_wp2_with fail
  generalize w.alloc (.cells #[.slice v.gA k.globals.length v.gc, .slice v.lA k.locks.length v.lc, .slice v.pA k.procs.length v.pc, .slice v.eA k.entry.length v.ec, .slice v.iA k.ins.length v.ic] 28) = W at hbx HC ⊢
  refine HC.out.mono ?_
  rintro e w1 ⟨rfl, hb1⟩
  have hbx1 := hbx.to hb1
  obtain ⟨hbw, hsz, c0, c1, c2, c3, c4⟩ := id hbx1
  go_wp2_with fail
  go_region
  have hL0 := wl_start (v := v) (k := k) hbw hins
  have c3' := cell_below (wl_below w1 v k) c3
  generalize ((w1.alloc (.cells (madeCells #[.bool false] k.ins.length) 4)).alloc (.cells #[.slice v.gA k.globals.length v.gc, .slice v.lA k.locks.length v.lc, .slice v.pA k.procs.length v.pc, .slice v.eA k.entry.length v.ec, .slice v.iA k.ins.length v.ic, .slice (some ⟨w1.heap.size, 0, none⟩) k.ins.length k.ins.length, .slice none 0 0, .slice none 0 0, .slice none 0 0, .int .i64 0, .int .i64 0] 89)).drew = W2 at hL0 c3' ⊢
  clear c0 c1 c2 c3 c4 hmk hbx hbx1 HC
  have hw1 := hbw.size
  clear hbw
  generalize w1.heap.size = gl at hL0 ⊢
  go_wp2_with fail
  go_loopg [20] k.procs.length (fun l i wr => ∃ p : Nat, p ≤ k.procs.length ∧ l = k.procs.length - p ∧ i = .int .i64 p ∧ WL w v k (gl + 1) gl p wr)
  case atStart => exact ⟨0, by omega, by omega, rfl, hL0⟩
  case round =>
    clear hL0
    obtain ⟨p, hp, rfl, rfl, hL⟩ := hrel
    by_cases hlt : p < k.procs.length
    · have hkr := hkf.below hL.below
      obtain ⟨ad, ee, hbe, hce⟩ := entry_cell HR.out hkr hlt
      have hpe : p < k.entry.length := by have := HEL.out; omega
      have hent := ent_lt HR.out hlt
      have d5 := hL.blk.cell 5 rfl
      have fz := hL.row.frozenAt (ent k p)
      obtain ⟨u, hu⟩ := own_has hL.row (j := ent k p) (by omega)
      have y1 : (0 : Int) ≤ (ent k p : Int) := by omega
      have y2 : (ent k p : Int) < (k.ins.length : Int) := by omega
      obtain ⟨s1, s2⟩ := hL.row.stored (ent k p) (bv true)
      rw [bv_set] at s1
      have hgl := (own_lt hL.row).1
      have hB1 := hL.blk.grown s2 (by simp)
      have d5' := hB1.cell 5 rfl
      have hbl1 : Below w.heap.size w (wr.setCell ⟨gl, ent k p, none⟩ (bv true)) := hL.below.setCell (by show w.heap.size ≤ gl; omega) _
      have HSP := Lib.hid (spread_any (gl + 1) gl k.ins.length v k (ent k p) ((markL k.ins.length (LiveTo k p)).set (ent k p) true) _ HR.out (hkf.below hbl1) hgl hB1.kat (by omega) hent s1)
      have HEE := Lib.hid ee
      rw [ee]
      clear ee
      go_wp2_with fail
      rw [← HEE.out]
      refine HSP.out.mono ?_
      rintro e w3 ⟨rfl, ms', g1, g2, g3⟩
      have e := live_step HR.out hlt g1
      subst e
      have hL3 : WL w v k (gl + 1) gl (p + 1) w3 := ⟨hB1.grown g3 (by simp), g2, hbl1.trans (below_grown g3 (by have := hbl1.size; omega) hgl), by omega⟩
      clear g1 g2 g3 hL s1 s2 hB1 d5 d5' hu fz
      go_wp2_with fail
      go_roundg (k.procs.length - (p + 1))
      case measure => omega
      case rel => exact ⟨p + 1, by omega, rfl, by go_num, hL3⟩
    · obtain rfl : p = k.procs.length := by omega
      have hll := hL.row
      rw [live_to_all HR.out] at hll
      have hbw := hL.below
      have hgl := own_lt hll
      have hFC := Lib.hid (findCalls_any (B := gl + 1) (gl + 1) v k (some ⟨gl, 0, none⟩) k.ins.length _ _ _ _ _ wr HR.out ((hkf.below hbw).mono (by omega)) (Nat.le_refl _) hL.blk ((own_rd hll).low (by show gl < gl + 1; omega)))
      have hge : ¬ k.procs.length < k.entry.length := by have := HEL.out; omega
      go_wp2_with fail
      refine hFC.out.mono ?_
      rintro e w3 ⟨rfl, a, b, c, hF⟩
      have hFR := Lib.hid (findRoots_any (B := gl + 1) (gl + 1) v k _ _ _ a b c wr w3 HR.out ((hkf.below hbw).mono (by omega)) (Nat.le_refl _) hF)
      clear hF
      go_wp2_with fail
      refine hFR.out.mono ?_
      rintro e w4 ⟨rfl, hF⟩
      go_wp2_with fail
      go_ret2
      have hb4 := below_grown hF.grown (B := gl + 1) (by have := hF.g_lt; omega) (Nat.le_refl _)
      refine ⟨gl + 1, rfl, by omega, ⟨?_, hF.blk.kat, ⟨_, _, hF.blk.cell 5 rfl, ?_⟩, ⟨_, k.procs.length, ?_, own_rd hF.rca⟩, ⟨_, k.procs.length, ?_, own_rd hF.rsp⟩, ⟨_, k.procs.length, ?_, own_rd hF.rfr⟩, hF.blk.cell 9 rfl, hF.blk.cell 10 rfl⟩, hbw.trans (hb4.mono (by omega))⟩
      · exact ((hkf.below hbw).below (hb4.mono (by omega))).full
      · exact (((own_rd hll).low (B' := gl + 1) (by show gl < gl + 1; omega)).below hb4).full
      · rw [tabL_len]; exact hF.blk.cell 6 rfl
      · rw [tabL_len]; exact hF.blk.cell 7 rfl
      · rw [tabL_len]; exact hF.blk.cell 8 rfl
end Go.Proofs.YtkgoajnnkimkaaaGreat
/- Contracts of InLoop, NextOf, ReachIn, LiveIn, of the program and of the reference. -/
set_option linter.unusedSimpArgs false
set_option linter.unusedVariables false
namespace Go.Proofs.YtkgoajnnkimkaaaGreat
open Go.ChangeShapes Go.WideShapes Go.ChangeAt Go.RowKit

/-- What is answered of a place of right code; else nothing. -/
noncomputable def atL (k : Cd) (at_ : Int) (F : Nat → List Nat) : List Nat := if (codeOkI k && (decide (0 ≤ at_) && decide (at_ < k.ins.length))) = true then F at_.toNat else []
noncomputable def procL (k : Cd) (at_ : Int) (F : Nat → List Nat) : List Nat := if (codeOkI k && (decide (0 ≤ at_) && decide (at_ < k.procs.length))) = true then F at_.toNat else []
noncomputable def atB (k : Cd) (at_ : Int) (F : Nat → Bool) : Bool := if (codeOkI k && (decide (0 ≤ at_) && decide (at_ < k.ins.length))) = true then F at_.toNat else false
noncomputable def procB (k : Cd) (at_ : Int) (F : Nat → Bool) : Bool := if (codeOkI k && (decide (0 ≤ at_) && decide (at_ < k.procs.length))) = true then F at_.toNat else false
noncomputable def atI (k : Cd) (at_ : Int) (F : Nat → Nat) : Nat := if (codeOkI k && (decide (0 ≤ at_) && decide (at_ < k.ins.length))) = true then F at_.toNat else 0
noncomputable def procV (k : Cd) (at_ : Int) (F : Nat → Nat) : Nat := if (codeOkI k && (decide (0 ≤ at_) && decide (at_ < k.procs.length))) = true then F at_.toNat else 0
section
variable {k : Cd} {at_ : Int} {F : Nat → List Nat} {G : Nat → Bool} {H : Nat → Nat}
theorem atL_no (h : (codeOkI k && (decide (0 ≤ at_) && decide (at_ < k.ins.length))) = false) : atL k at_ F = [] := by rw [atL, if_neg (by rw [h]; simp)]
theorem procL_no (h : (codeOkI k && (decide (0 ≤ at_) && decide (at_ < k.procs.length))) = false) : procL k at_ F = [] := by rw [procL, if_neg (by rw [h]; simp)]
theorem atB_no (h : (codeOkI k && (decide (0 ≤ at_) && decide (at_ < k.ins.length))) = false) : atB k at_ G = false := by rw [atB, if_neg (by rw [h]; simp)]
theorem procB_no (h : (codeOkI k && (decide (0 ≤ at_) && decide (at_ < k.procs.length))) = false) : procB k at_ G = false := by rw [procB, if_neg (by rw [h]; simp)]
theorem atI_no (h : (codeOkI k && (decide (0 ≤ at_) && decide (at_ < k.ins.length))) = false) : atI k at_ H = 0 := by rw [atI, if_neg (by rw [h]; simp)]
theorem procV_no (h : (codeOkI k && (decide (0 ≤ at_) && decide (at_ < k.procs.length))) = false) : procV k at_ H = 0 := by rw [procV, if_neg (by rw [h]; simp)]
theorem and_no1 {a b : Bool} (h : a = false) : (a && b) = false := by rw [h]; rfl
theorem and_no2 {a b : Bool} (h : b = false) : (a && b) = false := by rw [h]; simp
end
section
variable {k : Cd} {a : Nat} {F : Nat → List Nat} {G : Nat → Bool} {H : Nat → Nat}
theorem place_yes (hok : codeOkI k = true) {n : Nat} (ha : a < n) : (codeOkI k && (decide ((0 : Int) ≤ (a : Int)) && decide ((a : Int) < (n : Int)))) = true := by
  rw [hok]; simp; exact ha
theorem atL_yes (hok : codeOkI k = true) (ha : a < k.ins.length) : atL k a F = F a := by rw [atL, if_pos (place_yes hok ha)]; simp
theorem procL_yes (hok : codeOkI k = true) (ha : a < k.procs.length) : procL k a F = F a := by rw [procL, if_pos (place_yes hok ha)]; simp
theorem atB_yes (hok : codeOkI k = true) (ha : a < k.ins.length) : atB k a G = G a := by rw [atB, if_pos (place_yes hok ha)]; simp
theorem procB_yes (hok : codeOkI k = true) (ha : a < k.procs.length) : procB k a G = G a := by rw [procB, if_pos (place_yes hok ha)]; simp
theorem atI_yes (hok : codeOkI k = true) (ha : a < k.ins.length) : atI k a H = H a := by rw [atI, if_pos (place_yes hok ha)]; simp
theorem procV_yes (hok : codeOkI k = true) (ha : a < k.procs.length) : procV k a H = H a := by rw [procV, if_pos (place_yes hok ha)]; simp
end
theorem newNil {w w' : World} {xs : List Nat} (h : xs = []) (hb : Below w.heap.size w w') : NewNats w xs (.returned (.slice none 0 0)) w' := by
  subst h
  exact ⟨none, 0, rfl, World.ownsRow_nil _ _ _ _, hb⟩
theorem newNil0 {w W : World} {xs : List Nat} (h : xs = []) (hb : Below w.heap.size w W) : NewNats w xs (.returned (.slice (some ⟨W.heap.size, 0, none⟩) 0 0)) (W.alloc (.cells #[] 3)) := by
  subst h
  exact newNats_lit w W [] (by simp) hb _ rfl _ rfl _ rfl
theorem NewNats.more {w w1 w' : World} {xs ys : List Nat} {e : Ending} (h : NewNats w1 xs e w') (hb : Below w.heap.size w w1) (he : ys = xs) : NewNats w ys e w' := by
  subst he
  obtain ⟨A, c, h1, h2, h3⟩ := h
  exact ⟨A, c, h1, own_mono h2 hb.size, below_trans' hb h3⟩
theorem l10Ok_any {B L : Nat} (v : CV) (k : Cd) (at_ : Int) (w : World) (hk : CodeAt w B v k) (hcb : CdB L k) (hL : L ≤ 1099511627776) :
    Calls Tryz.prog 104 #[.agg #[.slice v.gA k.globals.length v.gc, .slice v.lA k.locks.length v.lc, .slice v.pA k.procs.length v.pc, .slice v.eA k.entry.length v.ec, .slice v.iA k.ins.length v.ic], .int .i64 at_] w fun e w' => e = .returned (.bool (codeOkI k && (decide (0 ≤ at_) && decide (at_ < k.procs.length)))) ∧ Below w.heap.size w w' := by
  have hl := hcb.procs
  have hcs := codeOk_s v k (w.alloc (.cells #[.slice v.gA k.globals.length v.gc, .slice v.lA k.locks.length v.lc, .slice v.pA k.procs.length v.pc, .slice v.eA k.entry.length v.ec, .slice v.iA k.ins.length v.ic] 28)) (hk.full.below (below_alloc0 _ _)) hcb hL
  rw [← codeOk_eq] at hcs
  have HC := Lib.hid hcs
  have hbx := codeBox w v k
  clear hcs hcb
  generalize codeOkI k = ok at *
  go_enter Tryz.func104, Tryz.ntmps104
  go_wp2_with fail
  generalize w.alloc (.cells #[.slice v.gA k.globals.length v.gc, .slice v.lA k.locks.length v.lc, .slice v.pA k.procs.length v.pc, .slice v.eA k.entry.length v.ec, .slice v.iA k.ins.length v.ic] 28) = W at hbx HC ⊢
  refine HC.out.mono ?_
  rintro r w1 ⟨rfl, hb1⟩
  obtain ⟨hbw, hsz, c0, c1, c2, c3, c4⟩ := hbx.to hb1
  cases ok
  · go_wp2_with fail
    go_ret
    exact ⟨rfl, hbw⟩
  · go_wp2_with fail
    refine (l01In_any _ _ _ _).mono ?_
    rintro r w2 ⟨rfl, rfl⟩
    go_wp2_with fail
    go_ret
    refine ⟨ret_bool ?_, hbw⟩
    rw [Bool.eq_iff_iff]
    simp
    omega
theorem codeOk_sI {B L : Nat} (v : CV) (k : Cd) (w : World) (hk : CodeAt w B v k) (hcb : CdB L k) (hL : L ≤ 1099511627776) :
    Calls Tryz.prog 84 #[.agg #[.slice v.gA k.globals.length v.gc, .slice v.lA k.locks.length v.lc, .slice v.pA k.procs.length v.pc, .slice v.eA k.entry.length v.ec, .slice v.iA k.ins.length v.ic]] w fun e w' => e = .returned (.bool (codeOkI k)) ∧ Below w.heap.size w w' := by
  rw [codeOk_eq]
  exact codeOk_s v k w hk hcb hL

set_option maxHeartbeats 1000000 in
theorem inLoop_i {B L : Nat} (v : CV) (k : Cd) (at_ : Int) (w : World) (hk : CodeAt w B v k) (hcb : CdB L k) (hL : L ≤ 1048576) :
    Calls Tryz.prog 51 #[.agg #[.slice v.gA k.globals.length v.gc, .slice v.lA k.locks.length v.lc, .slice v.pA k.procs.length v.pc, .slice v.eA k.entry.length v.ec, .slice v.iA k.ins.length v.ic], .int .i64 at_] w (fun e w' => e = .returned (.bool (atB k at_ (fun a => mkd (markL k.ins.length (Reach (nextL k) a)) a))) ∧ Below w.heap.size w w') := by
  have hkf := hk.full
  have hbx := codeBox w v k
  have hpl0 := hcb.procs
  have hil0 := hcb.ins
  cases hok : codeOkI k
  · have HW := Lib.hid (fun W (h : CodeAt W w.heap.size v k) => worldOf_no v k W h hcb (by omega) hok)
    have HZ := Lib.hid (show ∀ w', Below w.heap.size w w' → Ending.returned (.bool false) = .returned (.bool (atB k at_ (fun a => mkd (markL k.ins.length (Reach (nextL k) a)) a))) ∧ Below w.heap.size w w' from fun w' h => ⟨by rw [atB_no (and_no1 hok)], h⟩)
    clear hok hcb hk
    go_enter Tryz.func51, Tryz.ntmps51
    go_wp2_with fail
    generalize w.alloc (.cells #[.slice v.gA k.globals.length v.gc, .slice v.lA k.locks.length v.lc, .slice v.pA k.procs.length v.pc, .slice v.eA k.entry.length v.ec, .slice v.iA k.ins.length v.ic] 28) = W at hbx ⊢
    refine (HW.out _ (hkf.below hbx.1)).mono ?_
    rintro e w1 ⟨rfl, hb1⟩
    go_wp2_with fail
    go_ret
    exact HZ.out _ (below_trans' hbx.1 hb1)
  · have HR := Lib.hid (right_of hok)
    have HW := Lib.hid (fun W (h : CodeAt W w.heap.size v k) => worldOf_yes v k W h hcb (by omega) hok)
    cases hpl : (decide (0 ≤ at_) && decide (at_ < k.ins.length))
    · have HZ := Lib.hid (show ∀ w', Below w.heap.size w w' → Ending.returned (.bool false) = .returned (.bool (atB k at_ (fun a => mkd (markL k.ins.length (Reach (nextL k) a)) a))) ∧ Below w.heap.size w w' from fun w' h => ⟨by rw [atB_no (and_no2 hpl)], h⟩)
      have HPL := Lib.hid hpl
      clear hok hpl hcb hk
      go_enter Tryz.func51, Tryz.ntmps51
      go_wp2_with fail
      generalize w.alloc (.cells #[.slice v.gA k.globals.length v.gc, .slice v.lA k.locks.length v.lc, .slice v.pA k.procs.length v.pc, .slice v.eA k.entry.length v.ec, .slice v.iA k.ins.length v.ic] 28) = W at hbx ⊢
      refine (HW.out _ (hkf.below hbx.1)).mono ?_
      rintro e w1 ⟨g, rfl, hgl, hW, hb1⟩
      have hbx1 := hbx.to hb1
      obtain ⟨hbw, hsz, c0, c1, c2, c3, c4⟩ := id hbx1
      go_wp2_with fail
      refine (isPlace_any v k _ _).mono ?_
      rintro e w2 ⟨rfl, hb2⟩
      rw [HPL.out]
      go_wp2_with fail
      go_ret
      exact HZ.out _ (below_trans' hbw hb2)
    · obtain ⟨a, rfl, hal⟩ : ∃ a : Nat, at_ = a ∧ a < k.ins.length := by
        simp only [Bool.and_eq_true, decide_eq_true_eq] at hpl
        exact ⟨at_.toNat, by omega, by omega⟩
      have HY := Lib.hid (atB_yes (G := fun a => mkd (markL k.ins.length (Reach (nextL k) a)) a) hok hal)
      have HPL := Lib.hid hpl
      clear hok hpl hcb hk
      go_enter Tryz.func51, Tryz.ntmps51
      go_wp2_with fail
      generalize w.alloc (.cells #[.slice v.gA k.globals.length v.gc, .slice v.lA k.locks.length v.lc, .slice v.pA k.procs.length v.pc, .slice v.eA k.entry.length v.ec, .slice v.iA k.ins.length v.ic] 28) = W at hbx ⊢
      refine (HW.out _ (hkf.below hbx.1)).mono ?_
      rintro e w1 ⟨g, rfl, hgl, hW, hb1⟩
      have hbx1 := hbx.to hb1
      obtain ⟨hbw, hsz, c0, c1, c2, c3, c4⟩ := id hbx1
      go_wp2_with fail
      refine (isPlace_any v k _ _).mono ?_
      rintro e w2 ⟨rfl, hb2⟩
      rw [HPL.out]
      clear c0 c1 c2 c3 c4
      have hW2 := hW.below hb2
      have hb02 := below_trans' hbw hb2
      have hbx2 := hbx1.to hb2
      clear hbx1 hbw hsz hb2 hb1 hbx
      have HRE := Lib.hid (reach_any g v k a w2 HR.out hW2.code hW2.kat hal)
      go_wp2_with fail
      refine HRE.out.mono ?_
      rintro e w3 ⟨Am, cm, rfl, hom, hb3⟩
      have hins := HR.out.ins
      have z1 : (0 : Int) ≤ (a : Int) := by omega
      have z2 : (a : Int) < (k.ins.length : Int) := by omega
      obtain ⟨ad, rfl, _, hc⟩ := (own_rd hom).mark (j := a) (by rw [markL_len]; exact hal)
      rw [markL_len] at hom ⊢
      go_wp2_with fail
      go_ret
      exact ⟨ret_bool (by rw [HY.out]), below_trans' hb02 hb3⟩

end Go.Proofs.YtkgoajnnkimkaaaGreat
