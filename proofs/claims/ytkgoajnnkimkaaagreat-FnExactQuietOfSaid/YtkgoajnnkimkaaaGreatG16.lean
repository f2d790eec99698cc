/- Contracts of WritersOf of the program and of the reference. -/
import Derived.Test.YtkgoajnnkimkaaaGreatG15
set_option linter.unusedSimpArgs false
set_option linter.unusedVariables false
namespace Go.Proofs.YtkgoajnnkimkaaaGreat
open Go.ChangeShapes Go.WideShapes Go.ChangeAt Go.RowKit

theorem wrL_take (g : Int) {ts : List Tt} {j : Nat} (h : j < ts.length) (hy : ts[j].w = true ∧ (ts[j].g : Int) = g) : wrL g (ts.take (j + 1)) = wrL g (ts.take j) ++ [ts[j].a] := by rw [List.take_succ_eq_append_getElem h]; exact wrL_yes _ hy
theorem wrL_skip (g : Int) {ts : List Tt} {j : Nat} (h : j < ts.length) (hy : ¬ (ts[j].w = true ∧ (ts[j].g : Int) = g)) : wrL g (ts.take (j + 1)) = wrL g (ts.take j) := by rw [List.take_succ_eq_append_getElem h]; exact wrL_no _ hy
theorem nv_snoc2 (xs : List Nat) (x : Nat) : ((xs.map natI) ++ [natI x]).map iv = nv (xs ++ [x]) := by simp [nv]

set_option maxHeartbeats 4000000 in
theorem writersOf_i {B L : Nat} (v : CV) (k : Cd) (x0 : Int) (w : World) (hk : CodeAt w B v k) (hcb : CdB L k) (hL : L ≤ 1048576) :
    Calls Tryz.prog 67 #[.agg #[.slice v.gA k.globals.length v.gc, .slice v.lA k.locks.length v.lc, .slice v.pA k.procs.length v.pc, .slice v.eA k.entry.length v.ec, .slice v.iA k.ins.length v.ic], .int .i64 x0] w (NewNats w (writersL k x0)) := by
  have hkf := hk.full
  have hbx := codeBox w v k
  have hlen := codeT_len k
  have HWL := Lib.hid (show writersL k x0 = wrL x0 (codeT k (touchesN k)) from rfl)
  have HT := Lib.hid (fun W (hb : Below w.heap.size w W) => touchesOf_i v k W (hkf.below hb) hcb hL)
  clear hk hcb hkf
  generalize codeT k (touchesN k) = ts at *
  go_enter Tryz.func67, Tryz.ntmps67
  go_wp2_with fail
  generalize w.alloc (.cells #[.slice v.gA k.globals.length v.gc, .slice v.lA k.locks.length v.lc, .slice v.pA k.procs.length v.pc, .slice v.eA k.entry.length v.ec, .slice v.iA k.ins.length v.ic] 28) = W at hbx ⊢
  have hb0 := hbx.1
  clear hbx
  refine (HT.out _ hb0).mono ?_
  rintro e w2 ⟨A2, c2, rfl, hor, hb2⟩
  have hb02 := below_trans' hb0 hb2
  have HRD := Lib.hid (own_rd hor)
  clear hor hb2 hb0
  have hw2 : w.heap.size ≤ w2.heap.size := hb02.size
  go_wp2_with fail
  go_loopg [5, 11] ts.length (fun l out i wr => ∃ j : Nat, j ≤ ts.length ∧ l = ts.length - j ∧ i = .int .i64 j ∧ wr.ownsRow w2.heap.size 3 1 out (wrL x0 (ts.take j)).length (nv (wrL x0 (ts.take j))) ∧ Below w2.heap.size w2 wr)
  case atStart => exact ⟨0, by omega, by omega, rfl, World.ownsRow_nil _ _ _ _, Below.refl _ _⟩
  case round =>
    obtain ⟨j, hj, rfl, rfl, ho, hb⟩ := hrel
    obtain ⟨co, Ao, rfl⟩ : ∃ co Ao, _ := by
      obtain ⟨Ao, co, e⟩ := own_form ho
      exact ⟨co, Ao, e⟩
    have hsz := hb.size
    have hpl := Nat.le_trans (wrL_len x0 (ts.take j)) (List.length_take_le _ _)
    by_cases hlt : j < ts.length
    · obtain ⟨ad, e2, _, l0, l1, l2, l3⟩ := (HRD.out.below hb).touch hlt
      subst e2
      have z1 : (0 : Int) ≤ (j : Int) := by omega
      have z2 : (j : Int) < (ts.length : Int) := by omega
      by_cases hwr : ts[j].w = true
      · by_cases hg : (ts[j].g : Int) = x0
        · have HS := Lib.hid (wrL_take x0 hlt ⟨hwr, hg⟩)
          rw [hwr] at l2
          have e1 : (((ts[j].g : Nat) : Int) == x0) = true := by rw [beq_iff_eq]; exact hg
          clear hwr hg
          have b0 := box_cell wr #[.int .i64 ts[j].a, .int .i64 ts[j].g, .bool true, .int .i64 ts[j].h] 66 0 rfl
          have b1 := box_cell wr #[.int .i64 ts[j].a, .int .i64 ts[j].g, .bool true, .int .i64 ts[j].h] 66 1 rfl
          have b2 := box_cell wr #[.int .i64 ts[j].a, .int .i64 ts[j].g, .bool true, .int .i64 ts[j].h] 66 2 rfl
          have hbb := below_alloc hb (Nat.le_refl _) (.cells #[.int .i64 ts[j].a, .int .i64 ts[j].g, .bool true, .int .i64 ts[j].h] 66)
          have hoo := ho.alloc (.cells #[.int .i64 ts[j].a, .int .i64 ts[j].g, .bool true, .int .i64 ts[j].h] 66)
          go_wp2_with (at_builtin; refine append_int2 (xs := (wrL x0 (ts.take j)).map natI) (z := natI ts[j].a) rfl _ _ rfl hoo rfl rfl (by simp) (by omega) (by simp; omega) ?_; intro A7 c7 w7 ho7 hg7 hv7)
          go_roundg (ts.length - (j + 1))
          case measure => omega
          case rel => exact ⟨j + 1, by omega, rfl, by go_num, by rw [HS.out, ← nv_snoc2, List.length_append]; exact ho7, below_append hbb hoo hg7 (by simp; omega) (Nat.le_refl _)⟩
        · have HS := Lib.hid (wrL_skip x0 hlt (fun h => hg h.2))
          rw [hwr] at l2
          have e1 : (((ts[j].g : Nat) : Int) == x0) = false := by rw [beq_eq_false_iff_ne]; exact hg
          clear hwr hg
          have b0 := box_cell wr #[.int .i64 ts[j].a, .int .i64 ts[j].g, .bool true, .int .i64 ts[j].h] 66 0 rfl
          have b1 := box_cell wr #[.int .i64 ts[j].a, .int .i64 ts[j].g, .bool true, .int .i64 ts[j].h] 66 1 rfl
          have b2 := box_cell wr #[.int .i64 ts[j].a, .int .i64 ts[j].g, .bool true, .int .i64 ts[j].h] 66 2 rfl
          have hbb := below_alloc hb (Nat.le_refl _) (.cells #[.int .i64 ts[j].a, .int .i64 ts[j].g, .bool true, .int .i64 ts[j].h] 66)
          have hoo := ho.alloc (.cells #[.int .i64 ts[j].a, .int .i64 ts[j].g, .bool true, .int .i64 ts[j].h] 66)
          go_wp2_with fail
          go_roundg (ts.length - (j + 1))
          case measure => omega
          case rel => exact ⟨j + 1, by omega, rfl, by go_num, by rw [HS.out]; exact hoo, hbb⟩
      · have hwr : ts[j].w = false := by simpa using hwr
        have HS := Lib.hid (wrL_skip x0 hlt (fun h => by rw [hwr] at h; exact absurd h.1 (by simp)))
        rw [hwr] at l2
        clear hwr
        have b0 := box_cell wr #[.int .i64 ts[j].a, .int .i64 ts[j].g, .bool false, .int .i64 ts[j].h] 66 0 rfl
        have b1 := box_cell wr #[.int .i64 ts[j].a, .int .i64 ts[j].g, .bool false, .int .i64 ts[j].h] 66 1 rfl
        have b2 := box_cell wr #[.int .i64 ts[j].a, .int .i64 ts[j].g, .bool false, .int .i64 ts[j].h] 66 2 rfl
        have hbb := below_alloc hb (Nat.le_refl _) (.cells #[.int .i64 ts[j].a, .int .i64 ts[j].g, .bool false, .int .i64 ts[j].h] 66)
        have hoo := ho.alloc (.cells #[.int .i64 ts[j].a, .int .i64 ts[j].g, .bool false, .int .i64 ts[j].h] 66)
        go_wp2_with fail
        go_roundg (ts.length - (j + 1))
        case measure => omega
        case rel => exact ⟨j + 1, by omega, rfl, by go_num, by rw [HS.out]; exact hoo, hbb⟩
    · obtain rfl : j = ts.length := by omega
      have HFI := Lib.hid (show NewNats w (writersL k x0) (.returned (.slice Ao (wrL x0 (ts.take ts.length)).length co)) wr from by
        rw [HWL.out]
        rw [List.take_length] at ho ⊢
        exact ⟨Ao, co, rfl, own_mono ho (by omega), below_trans' hb02 hb⟩)
      go_wp2_with fail
      go_ret
      exact HFI.out

set_option maxHeartbeats 4000000 in
theorem writersOf_s {B L : Nat} (v : CV) (k : Cd) (x0 : Int) (w : World) (hk : CodeAt w B v k) (hcb : CdB L k) (hL : L ≤ 1048576) :
    Calls Tryz.prog 65 #[.agg #[.slice v.gA k.globals.length v.gc, .slice v.lA k.locks.length v.lc, .slice v.pA k.procs.length v.pc, .slice v.eA k.entry.length v.ec, .slice v.iA k.ins.length v.ic], .int .i64 x0] w (NewNats w (writersL k x0)) := by
  have hkf := hk.full
  have hbx := codeBox w v k
  have hlen := codeT_len k
  have HWL := Lib.hid (show writersL k x0 = wrL x0 (codeT k (touchesN k)) from rfl)
  have HT := Lib.hid (fun W (hb : Below w.heap.size w W) => touchesOf_s v k W (hkf.below hb) hcb hL)
  clear hk hcb hkf
  generalize codeT k (touchesN k) = ts at *
  go_enter Tryz.func65, Tryz.ntmps65
  go_wp2_with fail
  have hbx := hbx.to (below_alloc0 _ (.cells #[] 3))
  have hpo : ((w.alloc (.cells #[.slice v.gA k.globals.length v.gc, .slice v.lA k.locks.length v.lc, .slice v.pA k.procs.length v.pc, .slice v.eA k.entry.length v.ec, .slice v.iA k.ins.length v.ic] 28)).alloc (.cells #[] 3)).ownsRow (w.heap.size + 1) 3 1 (.slice (some ⟨w.heap.size + 1, 0, none⟩) 0 0) 0 (nv []) := by
    have := World.ownsRow_lit (base := w.heap.size + 1) (e := 3) (size := 1) (w.alloc (.cells #[.slice v.gA k.globals.length v.gc, .slice v.lA k.locks.length v.lc, .slice v.pA k.procs.length v.pc, .slice v.eA k.entry.length v.ec, .slice v.iA k.ins.length v.ic] 28)) #[] 0 (by simp) (by simp) rfl
    simpa [nv] using this
  have hW2 : w.heap.size + 1 < ((w.alloc (.cells #[.slice v.gA k.globals.length v.gc, .slice v.lA k.locks.length v.lc, .slice v.pA k.procs.length v.pc, .slice v.eA k.entry.length v.ec, .slice v.iA k.ins.length v.ic] 28)).alloc (.cells #[] 3)).heap.size := by simp
  generalize (w.alloc (.cells #[.slice v.gA k.globals.length v.gc, .slice v.lA k.locks.length v.lc, .slice v.pA k.procs.length v.pc, .slice v.eA k.entry.length v.ec, .slice v.iA k.ins.length v.ic] 28)).alloc (.cells #[] 3) = W at hbx hpo hW2 ⊢
  have hb0 := hbx.1
  clear hbx
  refine (HT.out _ hb0).mono ?_
  rintro e w2 ⟨A2, c2, rfl, hor, hb2⟩
  have hb02 := below_trans' hb0 hb2
  have ho2 := own_below hpo hb2
  have HRD := Lib.hid (fun V (h : Tch (w.heap.size + 1) (w.heap.size + 1) (w.heap.size + 1) w2 V) => own_rd (h.own hor hW2 hW2 hW2))
  have hw2 : w.heap.size + 1 < w2.heap.size := Nat.lt_of_lt_of_le hW2 hb2.size
  clear hor hb2 hb0 hpo hW2
  go_wp2_with fail
  go_loopg [5, 7] ts.length (fun l out i wr => ∃ j : Nat, j ≤ ts.length ∧ l = ts.length - j ∧ i = .int .i64 j ∧ wr.ownsRow (w.heap.size + 1) 3 1 out (wrL x0 (ts.take j)).length (nv (wrL x0 (ts.take j))) ∧ OBk (w.heap.size + 1) w2.heap.size out ∧ Tch (w.heap.size + 1) (w.heap.size + 1) (w.heap.size + 1) w2 wr)
  case atStart => exact ⟨0, by omega, by omega, rfl, ho2, fun b hb => .inl (by injection hb with hb; exact hb.symm), Tch.refl _ _ _ _⟩
  case round =>
    clear ho2
    obtain ⟨j, hj, rfl, rfl, ho, hOB, hT⟩ := hrel
    obtain ⟨co, Ao, rfl⟩ : ∃ co Ao, _ := by
      obtain ⟨Ao, co, e⟩ := own_form ho
      exact ⟨co, Ao, e⟩
    have hsz := hT.size
    have hpl := Nat.le_trans (wrL_len x0 (ts.take j)) (List.length_take_le _ _)
    by_cases hlt : j < ts.length
    · obtain ⟨ad, e2, _, l0, l1, l2, l3⟩ := (HRD.out _ hT).touch hlt
      subst e2
      have z1 : (0 : Int) ≤ (j : Int) := by omega
      have z2 : (j : Int) < (ts.length : Int) := by omega
      by_cases hwr : ts[j].w = true
      · by_cases hg : (ts[j].g : Int) = x0
        · have HS := Lib.hid (wrL_take x0 hlt ⟨hwr, hg⟩)
          rw [hwr] at l2
          have e1 : (((ts[j].g : Nat) : Int) == x0) = true := by rw [beq_iff_eq]; exact hg
          clear hwr hg
          go_wp2_with (at_builtin; refine append_int2 (xs := (wrL x0 (ts.take j)).map natI) (z := natI ts[j].a) rfl _ _ rfl ho rfl rfl rfl (by omega) (by omega) ?_; intro A7 c7 w7 ho7 hg7 hv7)
          go_roundg (ts.length - (j + 1))
          case measure => omega
          case rel => exact ⟨j + 1, by omega, rfl, by go_num, by rw [HS.out, ← nv_snoc2, List.length_append]; exact ho7, OBk.app hOB hv7 (by omega), hT.app hg7 hOB⟩
        · have HS := Lib.hid (wrL_skip x0 hlt (fun h => hg h.2))
          rw [hwr] at l2
          have e1 : (((ts[j].g : Nat) : Int) == x0) = false := by rw [beq_eq_false_iff_ne]; exact hg
          clear hwr hg
          go_wp2_with fail
          go_roundg (ts.length - (j + 1))
          case measure => omega
          case rel => exact ⟨j + 1, by omega, rfl, by go_num, by rw [HS.out]; exact ho, hOB, hT⟩
      · have hwr : ts[j].w = false := by simpa using hwr
        have HS := Lib.hid (wrL_skip x0 hlt (fun h => by rw [hwr] at h; exact absurd h.1 (by simp)))
        rw [hwr] at l2
        clear hwr
        go_wp2_with fail
        go_roundg (ts.length - (j + 1))
        case measure => omega
        case rel => exact ⟨j + 1, by omega, rfl, by go_num, by rw [HS.out]; exact ho, hOB, hT⟩
    · obtain rfl : j = ts.length := by omega
      have HFI := Lib.hid (show NewNats w (writersL k x0) (.returned (.slice Ao (wrL x0 (ts.take ts.length)).length co)) wr from by
        rw [HWL.out]
        rw [List.take_length] at ho ⊢
        exact ⟨Ao, co, rfl, own_mono ho (by omega), hb02.trans (hT.below (B := w.heap.size) (by omega) (by omega) (by omega) (by omega))⟩)
      go_wp2_with fail
      go_ret
      exact HFI.out
end Go.Proofs.YtkgoajnnkimkaaaGreat
