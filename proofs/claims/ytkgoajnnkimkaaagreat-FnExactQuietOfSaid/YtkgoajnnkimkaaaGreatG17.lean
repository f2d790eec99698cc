/- Contracts of QuietOf of the program and of the reference. -/
import Derived.Test.YtkgoajnnkimkaaaGreatG16
import Derived.Test.YtkgoajnnkimkaaaGreatG15
set_option linter.unusedSimpArgs false
set_option linter.unusedVariables false
namespace Go.Proofs.YtkgoajnnkimkaaaGreat
open Go.ChangeShapes Go.WideShapes Go.ChangeAt Go.RowKit

theorem touchF_g {k : Cd} {a h g : Nat} {t : Tt} (ht : t ∈ touchF k a h g) : t.g = g := by
  unfold touchF at ht
  rw [List.mem_append] at ht
  rcases ht with ht | ht
  · split at ht
    · simp at ht; rw [ht]
    · simp at ht
  · split at ht
    · simp at ht; rw [ht]
    · simp at ht
theorem touchL_g {k : Cd} {a h : Nat} {t : Tt} (ht : t ∈ touchL k a h) : t.g < k.globals.length := by
  unfold touchL at ht
  split at ht
  · unfold touchP at ht
    obtain ⟨g, hg, hm⟩ := List.mem_flatMap.1 ht
    rw [touchF_g hm]
    exact List.mem_range.1 hg
  · simp at ht
theorem touchesN_g {k : Cd} {t : Tt} (ht : t ∈ touchesN k) : t.g < k.globals.length := by
  unfold touchesN toL at ht
  obtain ⟨a, _, hm⟩ := List.mem_flatMap.1 ht
  exact touchL_g hm
theorem orW_lt : ∀ (n : Nat) (ts : List Tt), ts.length ≤ n → (∀ t ∈ ts, t.g < 6) → orW ts < 64 := by
  intro n
  induction n with
  | zero =>
    intro ts h _
    obtain rfl : ts = [] := List.eq_nil_of_length_eq_zero (by omega)
    simp [orW]
  | succ n ih =>
    intro ts h hg
    rcases nil_or_snoc ts with rfl | ⟨r, t, rfl⟩
    · simp [orW]
    · have ih := ih r (by simp at h; omega) (fun x hx => hg x (by simp [hx]))
      rw [orW_snoc]
      split
      · exact Nat.or_lt_two_pow (n := 6) ih (Nat.pow_lt_pow_right (by omega) (hg t (by simp)))
      · exact ih
theorem orW_take {ts : List Tt} {j : Nat} (h : j < ts.length) : orW (ts.take (j + 1)) = if ts[j].w = true then orW (ts.take j) ||| 2 ^ ts[j].g else orW (ts.take j) := by
  rw [List.take_succ_eq_append_getElem h, orW_snoc]

set_option maxHeartbeats 4000000 in
theorem quietOf_i {B L : Nat} (v : CV) (k : Cd) (w : World) (hk : CodeAt w B v k) (hcb : CdB L k) (hL : L ≤ 1048576) :
    Calls Tryz.prog 74 #[.agg #[.slice v.gA k.globals.length v.gc, .slice v.lA k.locks.length v.lc, .slice v.pA k.procs.length v.pc, .slice v.eA k.entry.length v.ec, .slice v.iA k.ins.length v.ic]] w (NewNats w (codeL k (quietL k))) := by
  have hkf := hk.full
  have hbx := codeBox w v k
  have hpl0 := hcb.procs
  have hil0 := hcb.ins
  cases hok : codeOkI k
  · have HW := Lib.hid (fun W (h : CodeAt W w.heap.size v k) => worldOf_no v k W h hcb (by omega) hok)
    have HZ := Lib.hid (show ∀ w', Below w.heap.size w w' → NewNats w (codeL k (quietL k)) (.returned (.slice none 0 0)) w' from fun w' h => newNil (codeL_no hok) h)
    clear hok hcb hk
    go_enter Tryz.func74, Tryz.ntmps74
    go_wp2_with fail
    generalize w.alloc (.cells #[.slice v.gA k.globals.length v.gc, .slice v.lA k.locks.length v.lc, .slice v.pA k.procs.length v.pc, .slice v.eA k.entry.length v.ec, .slice v.iA k.ins.length v.ic] 28) = W at hbx ⊢
    refine (HW.out _ (hkf.below hbx.1)).mono ?_
    rintro e w1 ⟨rfl, hb1⟩
    go_wp2_with fail
    go_ret
    exact HZ.out _ (below_trans' hbx.1 hb1)
  · have HR := Lib.hid (right_of hok)
    have HW := Lib.hid (fun W (h : CodeAt W w.heap.size v k) => worldOf_yes v k W h hcb (by omega) hok)
    have HY := Lib.hid (codeL_yes (F := quietL k) hok)
    have HCB := Lib.hid hcb
    have hlen := codeT_len k
    rw [codeT_yes hok] at hlen
    have hgl := (right_of hok).globals
    clear hok hcb hk
    go_enter Tryz.func74, Tryz.ntmps74
    go_wp2_with fail
    generalize w.alloc (.cells #[.slice v.gA k.globals.length v.gc, .slice v.lA k.locks.length v.lc, .slice v.pA k.procs.length v.pc, .slice v.eA k.entry.length v.ec, .slice v.iA k.ins.length v.ic] 28) = W at hbx ⊢
    refine (HW.out _ (hkf.below hbx.1)).mono ?_
    rintro e w2 ⟨g, rfl, hgl2, hW2, hb1⟩
    have hbx2 := hbx.to hb1
    clear hbx hb1
    have HC := Lib.hid (touches_any g v k w2 HR.out hW2 HCB.out hL)
    go_wp2_with fail
    refine HC.out.mono ?_
    rintro e w3 ⟨A3, c3', rfl, ho3, hb3⟩
    have hbx3 := hbx2.to hb3
    have HRD := Lib.hid (own_rd ho3)
    have HG := Lib.hid (fun t (ht : t ∈ touchesN k) => Nat.lt_of_lt_of_le (touchesN_g ht) hgl)
    have HQ := Lib.hid (show ∀ q, (orW (touchesN k)).testBit q = true ↔ wrL (q : Int) (touchesN k) ≠ [] from fun q => orW_bit q _ _ (Nat.le_refl _))
    have HQL := Lib.hid (show quietL k = listN k.globals.length (fun g => wrL (g : Int) (touchesN k) = []) from rfl)
    clear hbx2 hb3 HC hW2 HW ho3
    generalize touchesN k = ts at *
    go_wp2_with fail
    go_loopg [5, 20] ts.length (fun l out i wr => ∃ j : Nat, j ≤ ts.length ∧ l = ts.length - j ∧ i = .int .i64 j ∧ out = .int .i64 ((orW (ts.take j) : Nat) : Int) ∧ Below w3.heap.size w3 wr)
    case atStart => exact ⟨0, by omega, by omega, rfl, rfl, Below.refl _ _⟩
    case round =>
      obtain ⟨j, hj, rfl, rfl, rfl, hb⟩ := hrel
      have hsz := hb.size
      have hlo := orW_lt _ (ts.take j) (Nat.le_refl _) (fun t ht => HG.out t (List.mem_of_mem_take ht))
      by_cases hlt : j < ts.length
      · obtain ⟨ad, e2, _, l0, l1, l2, l3⟩ := (HRD.out.below hb).touch hlt
        subst e2
        have hg6 := HG.out ts[j] (List.getElem_mem hlt)
        have z1 : (0 : Int) ≤ (j : Int) := by omega
        have z2 : (j : Int) < (ts.length : Int) := by omega
        have HOT := Lib.hid (orW_take hlt)
        by_cases hwr : ts[j].w = true
        · have HS := Lib.hid (HOT.out.trans (if_pos hwr))
          rw [hwr] at l2
          clear hwr HOT
          have e1 : bits .or .i64 ((orW (ts.take j) : Nat) : Int) (wrap64 ((2 : Int) ^ ts[j].g)) = ((orW (ts.take j) ||| 2 ^ ts[j].g : Nat) : Int) := by
            rw [shl_one _ (by omega), i64_or_nat _ _ (by omega) (two_pow_lt _ (by omega))]
          have b1 := box_cell wr #[.int .i64 ts[j].a, .int .i64 ts[j].g, .bool true, .int .i64 ts[j].h] 66 1 rfl
          have b2 := box_cell wr #[.int .i64 ts[j].a, .int .i64 ts[j].g, .bool true, .int .i64 ts[j].h] 66 2 rfl
          have hbb := below_alloc hb (Nat.le_refl _) (.cells #[.int .i64 ts[j].a, .int .i64 ts[j].g, .bool true, .int .i64 ts[j].h] 66)
          go_wp2_with fail
          go_roundg (ts.length - (j + 1))
          case measure => omega
          case rel => exact ⟨j + 1, by omega, rfl, by go_num, by rw [HS.out, ← e1], hbb⟩
        · have hwr : ts[j].w = false := by simpa using hwr
          have HS := Lib.hid (HOT.out.trans (if_neg (by rw [hwr]; simp)))
          rw [hwr] at l2
          clear hwr HOT
          have b1 := box_cell wr #[.int .i64 ts[j].a, .int .i64 ts[j].g, .bool false, .int .i64 ts[j].h] 66 1 rfl
          have b2 := box_cell wr #[.int .i64 ts[j].a, .int .i64 ts[j].g, .bool false, .int .i64 ts[j].h] 66 2 rfl
          have hbb := below_alloc hb (Nat.le_refl _) (.cells #[.int .i64 ts[j].a, .int .i64 ts[j].g, .bool false, .int .i64 ts[j].h] 66)
          go_wp2_with fail
          go_roundg (ts.length - (j + 1))
          case measure => omega
          case rel => exact ⟨j + 1, by omega, rfl, by go_num, by rw [HS.out], hbb⟩
      · obtain rfl : j = ts.length := by omega
        rw [List.take_length] at hlo ⊢
        obtain ⟨W0, rfl⟩ : ∃ W0, W0 = wr := ⟨_, rfl⟩
        have hbx4 := hbx3.to hb
        obtain ⟨q1, q2, c0, c1, c2, c3, c4⟩ := id hbx4
        have HGB := Lib.hid (fun (q : Nat) (W : World) (hq : q < 64) => hasBit_any (orW ts) q W (by omega) hq)
        go_wp2_with fail
        clear c0 c1 c2 c3 c4 q1 q2
        go_loopg [8, 36] k.globals.length (fun l out i wr => ∃ q : Nat, q ≤ k.globals.length ∧ l = k.globals.length - q ∧ i = .int .i64 q ∧ wr.ownsRow W0.heap.size 3 1 out (listN q (fun g => wrL (g : Int) ts = [])).length (nv (listN q (fun g => wrL (g : Int) ts = []))) ∧ Below W0.heap.size W0 wr)
        case atStart => exact ⟨0, by omega, by omega, rfl, World.ownsRow_nil _ _ _ _, Below.refl _ _⟩
        case round =>
          obtain ⟨q, hq, rfl, rfl, ho, hb5⟩ := hrel
          obtain ⟨co, Ao, rfl⟩ : ∃ co Ao, _ := by
            obtain ⟨Ao, co, e⟩ := own_form ho
            exact ⟨co, Ao, e⟩
          have hsz5 := hb5.size
          have hll := listN_len q (fun g => wrL (g : Int) ts = [])
          by_cases hqt : q < k.globals.length
          · have hHB := HGB.out q wr (by omega)
            have z1 : (0 : Int) ≤ (q : Int) := by omega
            have z2 : (q : Int) < (k.globals.length : Int) := by omega
            by_cases hm : wrL (q : Int) ts = []
            · have hbit : (orW ts).testBit q = false := by
                cases h : (orW ts).testBit q
                · rfl
                · exact absurd hm ((HQ.out q).1 h)
              rw [hbit] at hHB
              have HS := Lib.hid (listN_step (P := fun g => wrL (g : Int) ts = []) hm)
              have HHB := Lib.hid hHB
              clear hm hbit hHB
              go_wp2_with fail
              refine HHB.out.mono ?_
              rintro e w6 ⟨rfl, rfl⟩
              go_wp2_with (at_builtin; refine append_int2 (xs := (listN q (fun g => wrL (g : Int) ts = [])).map natI) (z := natI q) rfl _ _ rfl ho rfl rfl rfl (by omega) (by omega) ?_; intro A7 c7 w7 ho7 hg7 hv7)
              go_roundg (k.globals.length - (q + 1))
              case measure => omega
              case rel => exact ⟨q + 1, by omega, rfl, by go_num, by rw [HS.out, ← nv_snoc2, List.length_append]; exact ho7, below_append hb5 ho hg7 hsz5 (Nat.le_refl _)⟩
            · have hbit : (orW ts).testBit q = true := (HQ.out q).2 hm
              rw [hbit] at hHB
              have HS := Lib.hid (listN_skip (P := fun g => wrL (g : Int) ts = []) hm)
              have HHB := Lib.hid hHB
              clear hm hbit hHB
              go_wp2_with fail
              refine HHB.out.mono ?_
              rintro e w6 ⟨rfl, rfl⟩
              go_wp2_with fail
              go_roundg (k.globals.length - (q + 1))
              case measure => omega
              case rel => exact ⟨q + 1, by omega, rfl, by go_num, by rw [HS.out]; exact ho, hb5⟩
          · obtain rfl : q = k.globals.length := by omega
            have HFI := Lib.hid (show NewNats w (codeL k (quietL k)) (.returned (.slice Ao (listN k.globals.length (fun g => wrL (g : Int) ts = [])).length co)) wr from by
              rw [HY.out, HQL.out]
              exact ⟨Ao, co, rfl, own_mono ho (Nat.le_of_lt hbx4.2.1), below_trans' hbx4.1 hb5⟩)
            go_wp2_with fail
            go_ret
            exact HFI.out

set_option maxHeartbeats 4000000 in
theorem quietOf_s {B L : Nat} (v : CV) (k : Cd) (w : World) (hk : CodeAt w B v k) (hcb : CdB L k) (hL : L ≤ 1048576) :
    Calls Tryz.prog 73 #[.agg #[.slice v.gA k.globals.length v.gc, .slice v.lA k.locks.length v.lc, .slice v.pA k.procs.length v.pc, .slice v.eA k.entry.length v.ec, .slice v.iA k.ins.length v.ic]] w (NewNats w (codeL k (quietL k))) := by
  have hkf := hk.full
  have hbx := (codeBox w v k).to (below_alloc0 _ (.cells #[] 3))
  have hpo : ((w.alloc (.cells #[.slice v.gA k.globals.length v.gc, .slice v.lA k.locks.length v.lc, .slice v.pA k.procs.length v.pc, .slice v.eA k.entry.length v.ec, .slice v.iA k.ins.length v.ic] 28)).alloc (.cells #[] 3)).ownsRow (w.heap.size + 1) 3 1 (.slice (some ⟨w.heap.size + 1, 0, none⟩) 0 0) 0 (nv []) := by
    have := World.ownsRow_lit (base := w.heap.size + 1) (e := 3) (size := 1) (w.alloc (.cells #[.slice v.gA k.globals.length v.gc, .slice v.lA k.locks.length v.lc, .slice v.pA k.procs.length v.pc, .slice v.eA k.entry.length v.ec, .slice v.iA k.ins.length v.ic] 28)) #[] 0 (by simp) (by simp) rfl
    simpa [nv] using this
  have hW2 : w.heap.size + 1 < ((w.alloc (.cells #[.slice v.gA k.globals.length v.gc, .slice v.lA k.locks.length v.lc, .slice v.pA k.procs.length v.pc, .slice v.eA k.entry.length v.ec, .slice v.iA k.ins.length v.ic] 28)).alloc (.cells #[] 3)).heap.size := by simp
  have hpl0 := hcb.procs
  have hil0 := hcb.ins
  have hgl0 := hcb.globals
  cases hok : codeOkI k
  · have HG := Lib.hid (fun W (hb : Below w.heap.size w W) => codeOk_sI v k W (hkf.below hb) hcb (by omega))
    rw [hok] at HG
    have HZ := Lib.hid (codeL_no (F := quietL k) hok)
    clear hok hcb hk
    go_enter Tryz.func73, Tryz.ntmps73
    go_wp2_with fail
    generalize (w.alloc (.cells #[.slice v.gA k.globals.length v.gc, .slice v.lA k.locks.length v.lc, .slice v.pA k.procs.length v.pc, .slice v.eA k.entry.length v.ec, .slice v.iA k.ins.length v.ic] 28)).alloc (.cells #[] 3) = W at hbx hpo hW2 ⊢
    go_loopg [3, 4] 0 (fun l out i wr => l = 0 ∧ i = .int .i64 0 ∧ out = .slice (some ⟨w.heap.size + 1, 0, none⟩) 0 0 ∧ wr = W)
    case atStart => exact ⟨rfl, rfl, rfl, rfl⟩
    case round =>
      obtain ⟨rfl, rfl, rfl, rfl⟩ := hrel
      obtain ⟨q1, q2, c0, c1, c2, c3, c4⟩ := id hbx
      go_wp2_with fail
      refine (HG.out _ q1).mono ?_
      rintro e w1 ⟨rfl, hb1⟩
      have HFI := Lib.hid (show NewNats w (codeL k (quietL k)) (.returned (.slice (some ⟨w.heap.size + 1, 0, none⟩) 0 0)) w1 from by
        rw [HZ.out]
        exact ⟨_, _, rfl, own_mono (own_below hpo hb1) (by omega), below_trans' hbx.1 hb1⟩)
      clear c0 c1 c2 c3 c4 q1 q2
      go_wp2_with fail
      go_ret
      exact HFI.out
  · have HG := Lib.hid (fun W (hb : Below w.heap.size w W) => codeOk_sI v k W (hkf.below hb) hcb (by omega))
    rw [hok] at HG
    have HY := Lib.hid (codeL_yes (F := quietL k) hok)
    have HWR := Lib.hid (fun (x : Nat) W (hb : Below w.heap.size w W) => (show Calls Tryz.prog 65 #[.agg #[.slice v.gA k.globals.length v.gc, .slice v.lA k.locks.length v.lc, .slice v.pA k.procs.length v.pc, .slice v.eA k.entry.length v.ec, .slice v.iA k.ins.length v.ic], .int .i64 (x : Int)] W (NewNats W (wrL (x : Int) (touchesN k))) from by
      have := writersOf_s v k (x : Int) W (hkf.below hb) hcb hL
      unfold writersL at this
      rwa [codeT_yes hok] at this))
    have HQL := Lib.hid (show quietL k = listN k.globals.length (fun g => wrL (g : Int) (touchesN k) = []) from rfl)
    clear hok hcb hk
    generalize touchesN k = ts at *
    go_enter Tryz.func73, Tryz.ntmps73
    go_wp2_with fail
    generalize (w.alloc (.cells #[.slice v.gA k.globals.length v.gc, .slice v.lA k.locks.length v.lc, .slice v.pA k.procs.length v.pc, .slice v.eA k.entry.length v.ec, .slice v.iA k.ins.length v.ic] 28)).alloc (.cells #[] 3) = W at hbx hpo hW2 ⊢
    have HBX := Lib.hid (fun V (h : Tch (w.heap.size + 1) (w.heap.size + 1) (w.heap.size + 1) W V) => hbx.at (h.below (B := w.heap.size + 1) (Nat.le_of_lt hW2) (Nat.le_refl _) (Nat.le_refl _) (Nat.le_refl _)) (by omega))
    clear hbx
    go_loopg [3, 4] k.globals.length (fun l out i wr => ∃ j : Nat, j ≤ k.globals.length ∧ l = k.globals.length - j ∧ i = .int .i64 j ∧ wr.ownsRow (w.heap.size + 1) 3 1 out (listN j (fun g => wrL (g : Int) ts = [])).length (nv (listN j (fun g => wrL (g : Int) ts = []))) ∧ OBk (w.heap.size + 1) W.heap.size out ∧ Tch (w.heap.size + 1) (w.heap.size + 1) (w.heap.size + 1) W wr)
    case atStart => exact ⟨0, by omega, by omega, rfl, hpo, fun b hb => .inl (by injection hb with hb; exact hb.symm), Tch.refl _ _ _ _⟩
    case round =>
      clear hpo
      obtain ⟨j, hj, rfl, rfl, ho, hOB, hT⟩ := hrel
      obtain ⟨co, Ao, rfl⟩ : ∃ co Ao, _ := by
        obtain ⟨Ao, co, e⟩ := own_form ho
        exact ⟨co, Ao, e⟩
      have hsz := hT.size
      have hll := listN_len j (fun g => wrL (g : Int) ts = [])
      have hbxr := HBX.out _ hT
      obtain ⟨q1, q2, c0, c1, c2, c3, c4⟩ := id hbxr
      by_cases hlt : j < k.globals.length
      · have z1 : (0 : Int) ≤ (j : Int) := by omega
        have z2 : (j : Int) < (k.globals.length : Int) := by omega
        go_wp2_with fail
        refine (HG.out _ q1).mono ?_
        rintro e w5 ⟨rfl, hb5⟩
        have ho5 := own_below ho hb5
        have hT5 := hT.trans (Tch.of_below hb5)
        have hsz5 := hT5.size
        have hbx5 := hbxr.to hb5
        clear q1 q2 c0 c1 c2 c3 c4 hbxr
        obtain ⟨q1, q2, c0, c1, c2, c3, c4⟩ := id hbx5
        go_wp2_with fail
        refine (HWR.out j _ q1).mono ?_
        rintro e w6 ⟨A6, c6, rfl, ho6, hb6⟩
        have ho7 := own_below ho5 hb6
        have hT7 := hT5.trans (Tch.of_below hb6)
        have hsz7 := hT7.size
        clear q1 q2 c0 c1 c2 c3 c4 hbx5 ho6
        by_cases hm : wrL (j : Int) ts = []
        · have HS := Lib.hid (listN_step (P := fun g => wrL (g : Int) ts = []) hm)
          rw [hm]
          clear hm
          go_wp2_with (at_builtin; refine append_int2 (xs := (listN j (fun g => wrL (g : Int) ts = [])).map natI) (z := natI j) rfl _ _ rfl ho7 rfl rfl rfl (by omega) (by omega) ?_; intro A7 c7 w7 ho8 hg8 hv8)
          go_roundg (k.globals.length - (j + 1))
          case measure => omega
          case rel => exact ⟨j + 1, by omega, rfl, by go_num, by rw [HS.out, ← nv_snoc2, List.length_append]; exact ho8, OBk.app hOB hv8 (by omega), hT7.app hg8 hOB⟩
        · have HS := Lib.hid (listN_skip (P := fun g => wrL (g : Int) ts = []) hm)
          have hne : (wrL (j : Int) ts).length ≠ 0 := fun h => hm (List.eq_nil_of_length_eq_zero h)
          have hne2 : (((wrL (j : Int) ts).length : Int) == 0) = false := by rw [beq_eq_false_iff_ne]; omega
          clear hm
          go_wp2_with fail
          go_roundg (k.globals.length - (j + 1))
          case measure => omega
          case rel => exact ⟨j + 1, by omega, rfl, by go_num, by rw [HS.out]; exact ho7, hOB, hT7⟩
      · obtain rfl : j = k.globals.length := by omega
        go_wp2_with fail
        refine (HG.out _ q1).mono ?_
        rintro e w5 ⟨rfl, hb5⟩
        have ho5 := own_below ho hb5
        have hbx5 := hbxr.to hb5
        have HFI := Lib.hid (show NewNats w (codeL k (quietL k)) (.returned (.slice Ao (listN k.globals.length (fun g => wrL (g : Int) ts = [])).length co)) w5 from by
          rw [HY.out, HQL.out]
          exact ⟨Ao, co, rfl, own_mono ho5 (by omega), hbx5.1⟩)
        clear q1 q2 c0 c1 c2 c3 c4 hbxr
        obtain ⟨q1, q2, c0, c1, c2, c3, c4⟩ := id hbx5
        go_wp2_with fail
        go_ret
        exact HFI.out
end Go.Proofs.YtkgoajnnkimkaaaGreat
