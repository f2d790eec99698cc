/- The program's MayMeet returns what the reference's MayMeet returns, for all arguments: the law FnExactMayMeet returns true. No condition beyond the given statement's own. -/
import Derived.Test.YtfecdgjnncpcjaaGreatG14
import Derived.Test.YtfecdgjnncpcjaaGreatM2
import Derived.Test.YtfecdgjnncpcjaaGreatB2
import Derived.Test.YtfecdgjnncpcjaaGreatB3
import Derived.Test.YtfecdgjnncpcjaaGreatB4
set_option linter.unusedSimpArgs false
set_option linter.unusedVariables false
namespace Go.Proofs.YtfecdgjnncpcjaaGreat.fnExactMayMeet
open Go.ChangeShapes Go.WideShapes Go.ChangeAt Go.RowKit


theorem cells_ltouch : Tryz.prog.cellsOf 28 = 4 := by kernel_rfl
theorem cells_bool1 : Tryz.prog.cellsOf 4 = 1 := by kernel_rfl
section
variable {H : Type} {enc : TypeId × Value → H} {W : World} {sp : Nat → Bool} {held : Bool}
set_option maxRecDepth 100000 in
theorem open_touch {r : Go.Reach} {b0 : Nat} {v : Value} {d : DataW H} {p : List MemPlace} (hv : Value.okWide Tryz.prog W r b0 28 v) (h : DataW.Trod enc Tryz.prog W 0 sp held 28 v d p) :
    ∃ (a g : Int) (b : Bool) (c : Int), v = .agg #[.int .i64 a, .int .i64 g, .bool b, .int .i64 c] := by
  obtain ⟨⟨l⟩, rfl, hsz⟩ := okWide_struct Tryz.underlying28 hv
  have hl : l.length = 4 := hsz.trans cells_ltouch
  match l, hl with
  | [v0, v1, v2, v3], _ =>
  obtain ⟨fuel, hf⟩ := h
  obtain ⟨xs, n, _, _, _, hxl, hg⟩ := DataW.trod_struct Tryz.underlying28 hf
  have h0 : DataW.trod enc Tryz.prog W 0 sp held n 3 (([v0, v1, v2, v3].drop 0).take (Tryz.prog.cellsOf 3)) = xs[0]? := hg 0 _ rfl
  have h1 : DataW.trod enc Tryz.prog W 0 sp held n 3 (([v0, v1, v2, v3].drop 1).take (Tryz.prog.cellsOf 3)) = xs[1]? := hg 1 _ rfl
  have h2 : DataW.trod enc Tryz.prog W 0 sp held n 4 (([v0, v1, v2, v3].drop 2).take (Tryz.prog.cellsOf 4)) = xs[2]? := hg 2 _ rfl
  have h3 : DataW.trod enc Tryz.prog W 0 sp held n 3 (([v0, v1, v2, v3].drop 3).take (Tryz.prog.cellsOf 3)) = xs[3]? := hg 3 _ rfl
  have hx4 : xs.length = 4 := hxl
  rw [cells_int, List.getElem?_eq_getElem (by omega)] at h0 h1 h3
  rw [cells_bool1, List.getElem?_eq_getElem (by omega)] at h2
  simp only [List.drop_zero, List.drop_succ_cons, List.take_succ_cons, List.take_zero] at h0 h1 h2 h3
  obtain ⟨o0, e0, _, _⟩ := DataW.trod_int Tryz.underlying3 h0
  obtain ⟨o1, e1, _, _⟩ := DataW.trod_int Tryz.underlying3 h1
  obtain ⟨o2, e2, _⟩ := DataW.trod_bool Tryz.underlying4 h2
  obtain ⟨o3, e3, _, _⟩ := DataW.trod_int Tryz.underlying3 h3
  injection e0 with e0
  injection e1 with e1
  injection e2 with e2
  injection e3 with e3
  subst e0 e1 e2 e3
  exact ⟨o0, o1, o2, o3, rfl⟩
end
set_option maxRecDepth 100000 in
set_option maxHeartbeats 8000000 in
theorem walk (v : CV) (k : Cd) (a1 g1 : Int) (b1 : Bool) (h1 a2 g2 : Int) (b2 : Bool) (h2 : Int) (w : World) (hk : CodeAt w w.heap.size v k) (hcb : CdB 9223372036854775807 k) :
    Calls Tryz.prog 3 #[.agg #[.slice v.gA k.globals.length v.gc, .slice v.lA k.locks.length v.lc, .slice v.pA k.procs.length v.pc, .slice v.eA k.entry.length v.ec, .slice v.iA k.ins.length v.ic], .agg #[.int .i64 a1, .int .i64 g1, .bool b1, .int .i64 h1], .agg #[.int .i64 a2, .int .i64 g2, .bool b2, .int .i64 h2]] w fun e w' => e = .returned (.bool true) ∧ Below w.heap.size w w' := by
  have HSz := Lib.hid (fun W (h : CodeAt W w.heap.size v k) => szCode_any v k 1048576 W h hcb (by omega))
  have hb0 := ((lawBox w v k).to (below_alloc0 _ (.cells #[.int .i64 a1, .int .i64 g1, .bool b1, .int .i64 h1] 28))).to (below_alloc0 _ (.cells #[.int .i64 a2, .int .i64 g2, .bool b2, .int .i64 h2] 28))
  have bt2 := below_alloc0 ((w.alloc (.cells #[.slice v.gA k.globals.length v.gc, .slice v.lA k.locks.length v.lc, .slice v.pA k.procs.length v.pc, .slice v.eA k.entry.length v.ec, .slice v.iA k.ins.length v.ic] 26)).alloc (.cells #[.int .i64 a1, .int .i64 g1, .bool b1, .int .i64 h1] 28)) (.cells #[.int .i64 a2, .int .i64 g2, .bool b2, .int .i64 h2] 28)
  have s1 : (w.alloc (.cells #[.slice v.gA k.globals.length v.gc, .slice v.lA k.locks.length v.lc, .slice v.pA k.procs.length v.pc, .slice v.eA k.entry.length v.ec, .slice v.iA k.ins.length v.ic] 26)).heap.size = w.heap.size + 1 := by simp
  have s2 : ((w.alloc (.cells #[.slice v.gA k.globals.length v.gc, .slice v.lA k.locks.length v.lc, .slice v.pA k.procs.length v.pc, .slice v.eA k.entry.length v.ec, .slice v.iA k.ins.length v.ic] 26)).alloc (.cells #[.int .i64 a1, .int .i64 g1, .bool b1, .int .i64 h1] 28)).heap.size = w.heap.size + 1 + 1 := by simp
  have m1 : (((w.alloc (.cells #[.slice v.gA k.globals.length v.gc, .slice v.lA k.locks.length v.lc, .slice v.pA k.procs.length v.pc, .slice v.eA k.entry.length v.ec, .slice v.iA k.ins.length v.ic] 26)).alloc (.cells #[.int .i64 a1, .int .i64 g1, .bool b1, .int .i64 h1] 28)).alloc (.cells #[.int .i64 a2, .int .i64 g2, .bool b2, .int .i64 h2] 28)).cell? ⟨w.heap.size + 1, 0, none⟩ = some (.int .i64 a1) ∧ (((w.alloc (.cells #[.slice v.gA k.globals.length v.gc, .slice v.lA k.locks.length v.lc, .slice v.pA k.procs.length v.pc, .slice v.eA k.entry.length v.ec, .slice v.iA k.ins.length v.ic] 26)).alloc (.cells #[.int .i64 a1, .int .i64 g1, .bool b1, .int .i64 h1] 28)).alloc (.cells #[.int .i64 a2, .int .i64 g2, .bool b2, .int .i64 h2] 28)).cell? ⟨w.heap.size + 1, 1, none⟩ = some (.int .i64 g1) ∧ (((w.alloc (.cells #[.slice v.gA k.globals.length v.gc, .slice v.lA k.locks.length v.lc, .slice v.pA k.procs.length v.pc, .slice v.eA k.entry.length v.ec, .slice v.iA k.ins.length v.ic] 26)).alloc (.cells #[.int .i64 a1, .int .i64 g1, .bool b1, .int .i64 h1] 28)).alloc (.cells #[.int .i64 a2, .int .i64 g2, .bool b2, .int .i64 h2] 28)).cell? ⟨w.heap.size + 1, 2, none⟩ = some (.bool b1) ∧ (((w.alloc (.cells #[.slice v.gA k.globals.length v.gc, .slice v.lA k.locks.length v.lc, .slice v.pA k.procs.length v.pc, .slice v.eA k.entry.length v.ec, .slice v.iA k.ins.length v.ic] 26)).alloc (.cells #[.int .i64 a1, .int .i64 g1, .bool b1, .int .i64 h1] 28)).alloc (.cells #[.int .i64 a2, .int .i64 g2, .bool b2, .int .i64 h2] 28)).cell? ⟨w.heap.size + 1, 3, none⟩ = some (.int .i64 h1) := by
    rw [← s1]
    exact ⟨cell_below bt2 (box_cell (w.alloc (.cells #[.slice v.gA k.globals.length v.gc, .slice v.lA k.locks.length v.lc, .slice v.pA k.procs.length v.pc, .slice v.eA k.entry.length v.ec, .slice v.iA k.ins.length v.ic] 26)) #[.int .i64 a1, .int .i64 g1, .bool b1, .int .i64 h1] 28 0 rfl), cell_below bt2 (box_cell (w.alloc (.cells #[.slice v.gA k.globals.length v.gc, .slice v.lA k.locks.length v.lc, .slice v.pA k.procs.length v.pc, .slice v.eA k.entry.length v.ec, .slice v.iA k.ins.length v.ic] 26)) #[.int .i64 a1, .int .i64 g1, .bool b1, .int .i64 h1] 28 1 rfl), cell_below bt2 (box_cell (w.alloc (.cells #[.slice v.gA k.globals.length v.gc, .slice v.lA k.locks.length v.lc, .slice v.pA k.procs.length v.pc, .slice v.eA k.entry.length v.ec, .slice v.iA k.ins.length v.ic] 26)) #[.int .i64 a1, .int .i64 g1, .bool b1, .int .i64 h1] 28 2 rfl), cell_below bt2 (box_cell (w.alloc (.cells #[.slice v.gA k.globals.length v.gc, .slice v.lA k.locks.length v.lc, .slice v.pA k.procs.length v.pc, .slice v.eA k.entry.length v.ec, .slice v.iA k.ins.length v.ic] 26)) #[.int .i64 a1, .int .i64 g1, .bool b1, .int .i64 h1] 28 3 rfl)⟩
  have m2 : (((w.alloc (.cells #[.slice v.gA k.globals.length v.gc, .slice v.lA k.locks.length v.lc, .slice v.pA k.procs.length v.pc, .slice v.eA k.entry.length v.ec, .slice v.iA k.ins.length v.ic] 26)).alloc (.cells #[.int .i64 a1, .int .i64 g1, .bool b1, .int .i64 h1] 28)).alloc (.cells #[.int .i64 a2, .int .i64 g2, .bool b2, .int .i64 h2] 28)).cell? ⟨w.heap.size + 1 + 1, 0, none⟩ = some (.int .i64 a2) ∧ (((w.alloc (.cells #[.slice v.gA k.globals.length v.gc, .slice v.lA k.locks.length v.lc, .slice v.pA k.procs.length v.pc, .slice v.eA k.entry.length v.ec, .slice v.iA k.ins.length v.ic] 26)).alloc (.cells #[.int .i64 a1, .int .i64 g1, .bool b1, .int .i64 h1] 28)).alloc (.cells #[.int .i64 a2, .int .i64 g2, .bool b2, .int .i64 h2] 28)).cell? ⟨w.heap.size + 1 + 1, 1, none⟩ = some (.int .i64 g2) ∧ (((w.alloc (.cells #[.slice v.gA k.globals.length v.gc, .slice v.lA k.locks.length v.lc, .slice v.pA k.procs.length v.pc, .slice v.eA k.entry.length v.ec, .slice v.iA k.ins.length v.ic] 26)).alloc (.cells #[.int .i64 a1, .int .i64 g1, .bool b1, .int .i64 h1] 28)).alloc (.cells #[.int .i64 a2, .int .i64 g2, .bool b2, .int .i64 h2] 28)).cell? ⟨w.heap.size + 1 + 1, 2, none⟩ = some (.bool b2) ∧ (((w.alloc (.cells #[.slice v.gA k.globals.length v.gc, .slice v.lA k.locks.length v.lc, .slice v.pA k.procs.length v.pc, .slice v.eA k.entry.length v.ec, .slice v.iA k.ins.length v.ic] 26)).alloc (.cells #[.int .i64 a1, .int .i64 g1, .bool b1, .int .i64 h1] 28)).alloc (.cells #[.int .i64 a2, .int .i64 g2, .bool b2, .int .i64 h2] 28)).cell? ⟨w.heap.size + 1 + 1, 3, none⟩ = some (.int .i64 h2) := by
    rw [← s2]
    exact ⟨box_cell ((w.alloc (.cells #[.slice v.gA k.globals.length v.gc, .slice v.lA k.locks.length v.lc, .slice v.pA k.procs.length v.pc, .slice v.eA k.entry.length v.ec, .slice v.iA k.ins.length v.ic] 26)).alloc (.cells #[.int .i64 a1, .int .i64 g1, .bool b1, .int .i64 h1] 28)) #[.int .i64 a2, .int .i64 g2, .bool b2, .int .i64 h2] 28 0 rfl, box_cell ((w.alloc (.cells #[.slice v.gA k.globals.length v.gc, .slice v.lA k.locks.length v.lc, .slice v.pA k.procs.length v.pc, .slice v.eA k.entry.length v.ec, .slice v.iA k.ins.length v.ic] 26)).alloc (.cells #[.int .i64 a1, .int .i64 g1, .bool b1, .int .i64 h1] 28)) #[.int .i64 a2, .int .i64 g2, .bool b2, .int .i64 h2] 28 1 rfl, box_cell ((w.alloc (.cells #[.slice v.gA k.globals.length v.gc, .slice v.lA k.locks.length v.lc, .slice v.pA k.procs.length v.pc, .slice v.eA k.entry.length v.ec, .slice v.iA k.ins.length v.ic] 26)).alloc (.cells #[.int .i64 a1, .int .i64 g1, .bool b1, .int .i64 h1] 28)) #[.int .i64 a2, .int .i64 g2, .bool b2, .int .i64 h2] 28 2 rfl, box_cell ((w.alloc (.cells #[.slice v.gA k.globals.length v.gc, .slice v.lA k.locks.length v.lc, .slice v.pA k.procs.length v.pc, .slice v.eA k.entry.length v.ec, .slice v.iA k.ins.length v.ic] 26)).alloc (.cells #[.int .i64 a1, .int .i64 g1, .bool b1, .int .i64 h1] 28)) #[.int .i64 a2, .int .i64 g2, .bool b2, .int .i64 h2] 28 3 rfl⟩
  clear hcb bt2 s1 s2
  obtain ⟨q1, q2, c0, c1, c2, c3, c4⟩ := id hb0
  go_enter Tryz.func3, Tryz.ntmps3
  go_wp2_with fail
  generalize ((w.alloc (.cells #[.slice v.gA k.globals.length v.gc, .slice v.lA k.locks.length v.lc, .slice v.pA k.procs.length v.pc, .slice v.eA k.entry.length v.ec, .slice v.iA k.ins.length v.ic] 26)).alloc (.cells #[.int .i64 a1, .int .i64 g1, .bool b1, .int .i64 h1] 28)).alloc (.cells #[.int .i64 a2, .int .i64 g2, .bool b2, .int .i64 h2] 28) = W at *
  have HBX := Lib.hid (fun V (hb : Below W.heap.size W V) => hb0.to hb)
  have HT1 := Lib.hid (show ∀ V, Below W.heap.size W V → V.cell? ⟨w.heap.size + 1, 0, none⟩ = some (.int .i64 a1) ∧ V.cell? ⟨w.heap.size + 1, 1, none⟩ = some (.int .i64 g1) ∧ V.cell? ⟨w.heap.size + 1, 2, none⟩ = some (.bool b1) ∧ V.cell? ⟨w.heap.size + 1, 3, none⟩ = some (.int .i64 h1) from fun V hb => ⟨cell_below hb m1.1, cell_below hb m1.2.1, cell_below hb m1.2.2.1, cell_below hb m1.2.2.2⟩)
  have HT2 := Lib.hid (show ∀ V, Below W.heap.size W V → V.cell? ⟨w.heap.size + 1 + 1, 0, none⟩ = some (.int .i64 a2) ∧ V.cell? ⟨w.heap.size + 1 + 1, 1, none⟩ = some (.int .i64 g2) ∧ V.cell? ⟨w.heap.size + 1 + 1, 2, none⟩ = some (.bool b2) ∧ V.cell? ⟨w.heap.size + 1 + 1, 3, none⟩ = some (.int .i64 h2) from fun V hb => ⟨cell_below hb m2.1, cell_below hb m2.2.1, cell_below hb m2.2.2.1, cell_below hb m2.2.2.2⟩)
  refine (HSz.out _ (hk.below hb0.1)).mono ?_
  rintro e w1 ⟨hb1, rfl | ⟨r1, rfl, hr1, _, hcb⟩⟩
  · go_wp2_with fail
    go_ret
    exact ⟨rfl, below_trans' hb0.1 hb1⟩
  have hbW := hb1
  clear hb0 hb1 HSz m1 m2 q1 q2 c0 c1 c2 c3 c4
  have hn1 : ¬ ((r1 : Int) < 0) := by omega
  have HTo := Lib.hid (fun W (h : CodeAt W w.heap.size v k) => toCode_any v k W h hcb)
  go_wp2_with fail
  refine wp_region_held_drew (S := fun w' => Below w1.heap.size w1 w') (by kernel_rfl) ((Below.refl _ _).drew) (fun hHeld => ?_)
  first | (refine hand_skip (i := 0) rfl (by kernel_rfl) (by kernel_rfl) (by kernel_rfl) (fun _ _ _ h => h) (by rfl) (by assumption) ?_) | (refine hand_run (i := 0) (v := ?_) rfl (by kernel_rfl) (by kernel_rfl) (by kernel_rfl) (fun _ _ _ h => h) (by rfl) ?_ (by assumption) ?_; rotate_left; (intro W hW; obtain ⟨_, _, f0, f1, f2, f3, f4⟩ := HBX.out _ (below_trans' hbW hW); obtain ⟨t0, t1, t2, t3⟩ := HT1.out _ (below_trans' hbW hW); obtain ⟨s0, s1, s2, s3⟩ := HT2.out _ (below_trans' hbW hW); first | (go_simp; done) | (go_simp; with_reducible rfl)))
  (try simp only [Act.put, List.setIfInBounds_toArray, List.set_cons_zero, List.set_cons_succ])
  first | (refine hand_skip (i := 2) rfl (by kernel_rfl) (by kernel_rfl) (by kernel_rfl) (fun _ _ _ h => h) (by rfl) (by assumption) ?_) | (refine hand_run (i := 2) (v := ?_) rfl (by kernel_rfl) (by kernel_rfl) (by kernel_rfl) (fun _ _ _ h => h) (by rfl) ?_ (by assumption) ?_; rotate_left; (intro W hW; obtain ⟨_, _, f0, f1, f2, f3, f4⟩ := HBX.out _ (below_trans' hbW hW); obtain ⟨t0, t1, t2, t3⟩ := HT1.out _ (below_trans' hbW hW); obtain ⟨s0, s1, s2, s3⟩ := HT2.out _ (below_trans' hbW hW); first | (go_simp; done) | (go_simp; with_reducible rfl)))
  (try simp only [Act.put, List.setIfInBounds_toArray, List.set_cons_zero, List.set_cons_succ])
  first | (refine hand_skip (i := 4) rfl (by kernel_rfl) (by kernel_rfl) (by kernel_rfl) (fun _ _ _ h => h) (by rfl) (by assumption) ?_) | (refine hand_run (i := 4) (v := ?_) rfl (by kernel_rfl) (by kernel_rfl) (by kernel_rfl) (fun _ _ _ h => h) (by rfl) ?_ (by assumption) ?_; rotate_left; (intro W hW; obtain ⟨_, _, f0, f1, f2, f3, f4⟩ := HBX.out _ (below_trans' hbW hW); obtain ⟨t0, t1, t2, t3⟩ := HT1.out _ (below_trans' hbW hW); obtain ⟨s0, s1, s2, s3⟩ := HT2.out _ (below_trans' hbW hW); first | (go_simp; done) | (go_simp; with_reducible rfl)))
  (try simp only [Act.put, List.setIfInBounds_toArray, List.set_cons_zero, List.set_cons_succ])
  refine hand_one (i := 1) rfl (by kernel_rfl) (fun K hK => ?_)
  refine q_yes (by rfl) ?_
  go_simp
  refine (HTo.out _ (hk.below (HBX.out _ (below_trans' hbW hHeld)).1)).mono ?_
  rintro e w3 ⟨u3, rfl, k3, hb3⟩
  have k3 := k3.sub (Nat.le_refl _) high_low
  refine hK.out _ _ (below_trans' hHeld hb3) (fun hHeld => ?_)
  clear hK K
  (try simp only [Act.put, List.setIfInBounds_toArray, List.set_cons_zero, List.set_cons_succ])
  refine hand_one (i := 3) rfl (by kernel_rfl) (fun K hK => ?_)
  refine q_yes (by rfl) ?_
  go_simp
  refine (toTouch_any _ _ _ _ _).mono ?_
  rintro e w4 ⟨rfl, hb4⟩
  have k3 := k3.full.below hb4
  refine hK.out _ _ (below_trans' hHeld hb4) (fun hHeld => ?_)
  clear hK K
  (try simp only [Act.put, List.setIfInBounds_toArray, List.set_cons_zero, List.set_cons_succ])
  refine hand_one (i := 5) rfl (by kernel_rfl) (fun K hK => ?_)
  refine q_yes (by rfl) ?_
  go_simp
  refine (toTouch_any _ _ _ _ _).mono ?_
  rintro e w4 ⟨rfl, hb4⟩
  have k3 := k3.full.below hb4
  refine hK.out _ _ (below_trans' hHeld hb4) (fun hHeld => ?_)
  clear hK K
  (try simp only [Act.put, List.setIfInBounds_toArray, List.set_cons_zero, List.set_cons_succ])
  refine hand_one (i := 6) rfl (by kernel_rfl) (fun K hK => ?_)
  refine q_yes (by rfl) ?_
  go_simp
  refine (mayMeet_s u3 k a1 g1 b1 h1 a2 g2 b2 h2 _ k3 hcb (by omega)).mono ?_
  rintro e w5 ⟨rfl, hb5⟩
  clear k3
  refine hK.out _ _ (below_trans' hHeld hb5) (fun hHeld => ?_)
  clear hK K
  (try simp only [Act.put, List.setIfInBounds_toArray, List.set_cons_zero, List.set_cons_succ])
  first | (refine hand_skip (i := 7) rfl (by kernel_rfl) (by kernel_rfl) (by kernel_rfl) (fun _ _ _ h => h) (by rfl) (by assumption) ?_) | (refine hand_run (i := 7) (v := ?_) rfl (by kernel_rfl) (by kernel_rfl) (by kernel_rfl) (fun _ _ _ h => h) (by rfl) ?_ (by assumption) ?_; rotate_left; (intro W hW; obtain ⟨_, _, f0, f1, f2, f3, f4⟩ := HBX.out _ (below_trans' hbW hW); obtain ⟨t0, t1, t2, t3⟩ := HT1.out _ (below_trans' hbW hW); obtain ⟨s0, s1, s2, s3⟩ := HT2.out _ (below_trans' hbW hW); first | (go_simp; done) | (go_simp; with_reducible rfl)))
  (try simp only [Act.put, List.setIfInBounds_toArray, List.set_cons_zero, List.set_cons_succ])
  refine wpAnyH_done (by kernel_rfl) ?_ _
  have hbW5 := below_trans' hbW hHeld
  clear hHeld
  obtain ⟨q1, q2, c0, c1, c2, c3, c4⟩ := HBX.out _ hbW5
  go_wp2_with fail
  clear q1 q2 c0 c1 c2 c3 c4
  refine (HTo.out _ (hk.below (HBX.out _ hbW5).1)).mono ?_
  rintro e w6 ⟨u6, rfl, k6, hb6⟩
  have k6 := k6.sub (Nat.le_refl _) high_low
  have bx := codeBox w6 u6 k
  have hbW6 := below_trans' hbW5 hb6
  clear hbW5 hb6
  go_wp2_with fail
  generalize w6.alloc (.cells #[.slice u6.gA k.globals.length u6.gc, .slice u6.lA k.locks.length u6.lc, .slice u6.pA k.procs.length u6.pc, .slice u6.eA k.entry.length u6.ec, .slice u6.iA k.ins.length u6.ic] 33) = w7 at bx ⊢
  have hbW7 := below_trans' hbW6 bx.1
  have k7 := k6.full.below bx.1
  obtain ⟨p1, p2, d0, d1, d2, d3, d4'⟩ := id bx
  refine wp_region_held_drew (S := fun w' => Below w7.heap.size w7 w') (by kernel_rfl) ((Below.refl _ _).drew) (fun hHeld => ?_)
  first | (refine hand_skip (i := 0) rfl (by kernel_rfl) (by kernel_rfl) (by kernel_rfl) (fun _ _ _ h => h) (by rfl) (by assumption) ?_) | (refine hand_run (i := 0) (v := ?_) rfl (by kernel_rfl) (by kernel_rfl) (by kernel_rfl) (fun _ _ _ h => h) (by rfl) ?_ (by assumption) ?_; rotate_left; (intro W hW; obtain ⟨_, _, f0, f1, f2, f3, f4⟩ := HBX.out _ (below_trans' hbW7 hW); obtain ⟨t0, t1, t2, t3⟩ := HT1.out _ (below_trans' hbW7 hW); obtain ⟨s0, s1, s2, s3⟩ := HT2.out _ (below_trans' hbW7 hW); have e0 := cell_below hW d0; have e1 := cell_below hW d1; have e2 := cell_below hW d2; have e3 := cell_below hW d3; have e4 := cell_below hW d4'; first | (go_simp; done) | (go_simp; with_reducible rfl)))
  (try simp only [Act.put, List.setIfInBounds_toArray, List.set_cons_zero, List.set_cons_succ])
  first | (refine hand_skip (i := 1) rfl (by kernel_rfl) (by kernel_rfl) (by kernel_rfl) (fun _ _ _ h => h) (by rfl) (by assumption) ?_) | (refine hand_run (i := 1) (v := ?_) rfl (by kernel_rfl) (by kernel_rfl) (by kernel_rfl) (fun _ _ _ h => h) (by rfl) ?_ (by assumption) ?_; rotate_left; (intro W hW; obtain ⟨_, _, f0, f1, f2, f3, f4⟩ := HBX.out _ (below_trans' hbW7 hW); obtain ⟨t0, t1, t2, t3⟩ := HT1.out _ (below_trans' hbW7 hW); obtain ⟨s0, s1, s2, s3⟩ := HT2.out _ (below_trans' hbW7 hW); have e0 := cell_below hW d0; have e1 := cell_below hW d1; have e2 := cell_below hW d2; have e3 := cell_below hW d3; have e4 := cell_below hW d4'; first | (go_simp; done) | (go_simp; with_reducible rfl)))
  (try simp only [Act.put, List.setIfInBounds_toArray, List.set_cons_zero, List.set_cons_succ])
  first | (refine hand_skip (i := 3) rfl (by kernel_rfl) (by kernel_rfl) (by kernel_rfl) (fun _ _ _ h => h) (by rfl) (by assumption) ?_) | (refine hand_run (i := 3) (v := ?_) rfl (by kernel_rfl) (by kernel_rfl) (by kernel_rfl) (fun _ _ _ h => h) (by rfl) ?_ (by assumption) ?_; rotate_left; (intro W hW; obtain ⟨_, _, f0, f1, f2, f3, f4⟩ := HBX.out _ (below_trans' hbW7 hW); obtain ⟨t0, t1, t2, t3⟩ := HT1.out _ (below_trans' hbW7 hW); obtain ⟨s0, s1, s2, s3⟩ := HT2.out _ (below_trans' hbW7 hW); have e0 := cell_below hW d0; have e1 := cell_below hW d1; have e2 := cell_below hW d2; have e3 := cell_below hW d3; have e4 := cell_below hW d4'; first | (go_simp; done) | (go_simp; with_reducible rfl)))
  (try simp only [Act.put, List.setIfInBounds_toArray, List.set_cons_zero, List.set_cons_succ])
  refine hand_one (i := 2) rfl (by kernel_rfl) (fun K hK => ?_)
  refine q_yes (by rfl) ?_
  go_simp
  refine (toTouch_any _ _ _ _ _).mono ?_
  rintro e w8 ⟨rfl, hb8⟩
  refine hK.out _ _ (below_trans' hHeld hb8) (fun hHeld => ?_)
  clear hK K
  (try simp only [Act.put, List.setIfInBounds_toArray, List.set_cons_zero, List.set_cons_succ])
  refine hand_one (i := 4) rfl (by kernel_rfl) (fun K hK => ?_)
  refine q_yes (by rfl) ?_
  go_simp
  refine (toTouch_any _ _ _ _ _).mono ?_
  rintro e w8 ⟨rfl, hb8⟩
  refine hK.out _ _ (below_trans' hHeld hb8) (fun hHeld => ?_)
  clear hK K
  (try simp only [Act.put, List.setIfInBounds_toArray, List.set_cons_zero, List.set_cons_succ])
  refine hand_one (i := 5) rfl (by kernel_rfl) (fun K hK => ?_)
  refine q_yes (by rfl) ?_
  go_simp
  refine (mayMeet_i u6 k a1 g1 b1 h1 a2 g2 b2 h2 _ (k7.full.below hHeld) hcb (by omega)).mono ?_
  rintro e w9 ⟨rfl, hb9⟩
  refine hK.out _ _ (below_trans' hHeld hb9) (fun hHeld => ?_)
  clear hK K
  (try simp only [Act.put, List.setIfInBounds_toArray, List.set_cons_zero, List.set_cons_succ])
  first | (refine hand_skip (i := 6) rfl (by kernel_rfl) (by kernel_rfl) (by kernel_rfl) (fun _ _ _ h => h) (by rfl) (by assumption) ?_) | (refine hand_run (i := 6) (v := ?_) rfl (by kernel_rfl) (by kernel_rfl) (by kernel_rfl) (fun _ _ _ h => h) (by rfl) ?_ (by assumption) ?_; rotate_left; (intro W hW; obtain ⟨_, _, f0, f1, f2, f3, f4⟩ := HBX.out _ (below_trans' hbW7 hW); obtain ⟨t0, t1, t2, t3⟩ := HT1.out _ (below_trans' hbW7 hW); obtain ⟨s0, s1, s2, s3⟩ := HT2.out _ (below_trans' hbW7 hW); have e0 := cell_below hW d0; have e1 := cell_below hW d1; have e2 := cell_below hW d2; have e3 := cell_below hW d3; have e4 := cell_below hW d4'; first | (go_simp; done) | (go_simp; with_reducible rfl)))
  (try simp only [Act.put, List.setIfInBounds_toArray, List.set_cons_zero, List.set_cons_succ])
  refine wpAnyH_done (by kernel_rfl) ?_ _
  have hbW9 := below_trans' hbW7 hHeld
  have k9 := k7.full.below hHeld
  have bz := bx.to hHeld
  clear hHeld d0 d1 d2 d3 d4' p1 p2
  obtain ⟨wz, rfl⟩ : ∃ wz : World, wz = w9 := ⟨_, rfl⟩
  obtain ⟨p1, p2, d0, d1, d2, d3, d4'⟩ := id bz
  have hne : (meetA k a1 g1 b1 h1 a2 g2 b2 h2 != meetA k a1 g1 b1 h1 a2 g2 b2 h2) = false := by simp
  go_wp2_with fail
  refine wp_region_held_drew (S := fun w' => Below wz.heap.size wz w') (by kernel_rfl) ((Below.refl _ _).drew) (fun hHeld => ?_)
  first | (refine hand_skip (i := 0) rfl (by kernel_rfl) (by kernel_rfl) (by kernel_rfl) (fun _ _ _ h => h) (by rfl) (by assumption) ?_) | (refine hand_run (i := 0) (v := ?_) rfl (by kernel_rfl) (by kernel_rfl) (by kernel_rfl) (fun _ _ _ h => h) (by rfl) ?_ (by assumption) ?_; rotate_left; (intro W hW; obtain ⟨_, _, f0, f1, f2, f3, f4⟩ := HBX.out _ (below_trans' hbW9 hW); obtain ⟨t0, t1, t2, t3⟩ := HT1.out _ (below_trans' hbW9 hW); obtain ⟨s0, s1, s2, s3⟩ := HT2.out _ (below_trans' hbW9 hW); have e0 := cell_below hW d0; have e1 := cell_below hW d1; have e2 := cell_below hW d2; have e3 := cell_below hW d3; have e4 := cell_below hW d4'; first | (go_simp; done) | (go_simp; with_reducible rfl)))
  (try simp only [Act.put, List.setIfInBounds_toArray, List.set_cons_zero, List.set_cons_succ])
  first | (refine hand_skip (i := 1) rfl (by kernel_rfl) (by kernel_rfl) (by kernel_rfl) (fun _ _ _ h => h) (by rfl) (by assumption) ?_) | (refine hand_run (i := 1) (v := ?_) rfl (by kernel_rfl) (by kernel_rfl) (by kernel_rfl) (fun _ _ _ h => h) (by rfl) ?_ (by assumption) ?_; rotate_left; (intro W hW; obtain ⟨_, _, f0, f1, f2, f3, f4⟩ := HBX.out _ (below_trans' hbW9 hW); obtain ⟨t0, t1, t2, t3⟩ := HT1.out _ (below_trans' hbW9 hW); obtain ⟨s0, s1, s2, s3⟩ := HT2.out _ (below_trans' hbW9 hW); have e0 := cell_below hW d0; have e1 := cell_below hW d1; have e2 := cell_below hW d2; have e3 := cell_below hW d3; have e4 := cell_below hW d4'; first | (go_simp; done) | (go_simp; with_reducible rfl)))
  (try simp only [Act.put, List.setIfInBounds_toArray, List.set_cons_zero, List.set_cons_succ])
  refine hand_one (i := 2) rfl (by kernel_rfl) (fun K hK => ?_)
  refine q_yes (by rfl) ?_
  go_simp
  refine (HTo.out _ (hk.below (HBX.out _ (below_trans' hbW9 hHeld)).1)).mono ?_
  rintro e w11 ⟨u11, rfl, k11, hb11⟩
  have k11 := k11.sub (Nat.le_refl _) high_low
  have kz := k9.full.below (below_trans' hHeld hb11)
  refine hK.out _ _ (below_trans' hHeld hb11) (fun hHeld => ?_)
  clear hK K
  (try simp only [Act.put, List.setIfInBounds_toArray, List.set_cons_zero, List.set_cons_succ])
  refine hand_one (i := 3) rfl (by kernel_rfl) (fun K hK => ?_)
  refine q_yes (by rfl) ?_
  go_simp
  refine (eqCode_any _ _ k _ kz k11 hcb).mono ?_
  rintro e w12 ⟨rfl, hb12⟩
  refine hK.out _ _ (below_trans' hHeld hb12) (fun hHeld => ?_)
  clear hK K
  (try simp only [Act.put, List.setIfInBounds_toArray, List.set_cons_zero, List.set_cons_succ])
  first | (refine hand_skip (i := 4) rfl (by kernel_rfl) (by kernel_rfl) (by kernel_rfl) (fun _ _ _ h => h) (by rfl) (by assumption) ?_) | (refine hand_run (i := 4) (v := ?_) rfl (by kernel_rfl) (by kernel_rfl) (by kernel_rfl) (fun _ _ _ h => h) (by rfl) ?_ (by assumption) ?_; rotate_left; (intro W hW; obtain ⟨_, _, f0, f1, f2, f3, f4⟩ := HBX.out _ (below_trans' hbW9 hW); obtain ⟨t0, t1, t2, t3⟩ := HT1.out _ (below_trans' hbW9 hW); obtain ⟨s0, s1, s2, s3⟩ := HT2.out _ (below_trans' hbW9 hW); have e0 := cell_below hW d0; have e1 := cell_below hW d1; have e2 := cell_below hW d2; have e3 := cell_below hW d3; have e4 := cell_below hW d4'; first | (go_simp; done) | (go_simp; with_reducible rfl)))
  (try simp only [Act.put, List.setIfInBounds_toArray, List.set_cons_zero, List.set_cons_succ])
  refine wpAnyH_done (by kernel_rfl) ?_ _
  go_wp2_with fail
  go_ret
  exact ⟨rfl, (HBX.out _ (below_trans' hbW9 hHeld)).1⟩

set_option maxRecDepth 100000 in
theorem lifted (os : Os) (started : os.Started) (H : Type) (enc : TypeId × Value → H) :
    ReturnsInHanded {} Tryz.checked os 3 .any (Rows.fnExactMayMeetSpec.pre6 enc Tryz.prog Tryz.f3 Rows.fnExactMayMeetRow.domain false) (Rows.fnExactMayMeetSpec.post enc Tryz.prog Tryz.f3 false true false false) := by
  refine returnsInHanded_of_change (C := Tryz.checked) own started (by kernel_rfl) Tryz.func3
    (ChangeSpec.witness6 (enc := enc) (C := Tryz.checked) false ⟨#[], #[.agg #[.slice none 0 0, .slice none 0 0, .slice none 0 0, .slice none 0 0, .slice none 0 0], .agg #[.int .i64 0, .int .i64 0, .bool false, .int .i64 0], .agg #[.int .i64 0, .int .i64 0, .bool false, .int .i64 0]], []⟩ 8 (by kernel_rfl) (by kernel_rfl) (by kernel_rfl) (by kernel_rfl)) ?_
  intro W base args ds gs before hval0 hW hcnd _
  have hval : ∀ (j : Nat) t v, Tryz.f3.params[j]? = some t → args[j]? = some v → Value.okWide Tryz.prog W .any base t v := hval0
  have hW' := hW
  obtain ⟨p, q, hA0, hV, rfl, hfz, hnd⟩ := hW
  have hA : DataW.TrodAll enc Tryz.prog W 0 (fun _ => true) true Tryz.f3.params.toList args.toList ds p := hA0
  rw [Tryz.params3] at hA hval
  obtain ⟨v0, vs0, d0, ds0, p0, q0, hargs, rfl, rfl, h0, r0⟩ := trodAll_cons hA
  obtain ⟨v1, vs1, d1, ds1, p1, q1, rfl, rfl, rfl, h1, r1⟩ := trodAll_cons r0
  obtain ⟨v2, vs2, d2, ds2, p2, q2, rfl, rfl, rfl, h2, r2⟩ := trodAll_cons r1
  obtain ⟨rfl, rfl, rfl⟩ := trodAll_nil r2
  obtain rfl : args = #[v0, v1, v2] := by cases args; simp_all
  clear hA0 hval0
  obtain ⟨u0, k0, rfl, hk0, hcb0⟩ := code_open (hval 0 26 v0 rfl rfl) h0
  obtain ⟨a1, g1, b1, h_1, rfl⟩ := open_touch (hval 1 28 v1 rfl rfl) h1
  obtain ⟨a2, g2, b2, h_2, rfl⟩ := open_touch (hval 2 28 v2 rfl rfl) h2
  refine (walk u0 k0 a1 g1 b1 h_1 a2 g2 b2 h_2 W hk0 hcb0).mono fun e W' ⟨he, hb⟩ => ?_
  subst he
  exact ⟨_, rfl, post_of_law laidOut rfl Tryz.underlying4 rfl (by kernel_rfl) (fun ds hds => by
    match ds, hds with
    | [_, _, _], _ => exact ⟨rfl, rfl, rfl⟩) hW' hb⟩

theorem over : Rows.fnExactMayMeetRow.holds Tryz.pinned (OpenSpec.ofChange Rows.fnExactMayMeetSpec) :=
  OpenClaim.holds_of_wide 3 Tryz.f3 rfl rfl rfl rfl rfl rfl rfl ⟨rfl, rfl, rfl, rfl, rfl⟩ rfl rfl rfl rfl rfl (by kernel_rfl) Tryz.func3 (by kernel_rfl)
    (of_decide_eq_true (by kernel_rfl)) (by unfold Func.isWrapper; first | (rw [if_pos (by decide +kernel)]; kernel_rfl) | (rw [if_neg (by decide +kernel)]; exact ⟨rfl, rfl⟩))
    (fun os started H enc _ => lifted os started H enc)

theorem proved : Rows.FnExactMayMeetSaid := over
#print axioms proved
end Go.Proofs.YtfecdgjnncpcjaaGreat.fnExactMayMeet
