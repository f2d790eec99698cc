/- Contracts of touches and l17All; TouchesOf of the program and of the reference. -/
import Derived.Test.YtkgoajnnkimkaaaGreatG9
import Derived.Laws.OwnMore
import Derived.Test.YtkgoajnnkimkaaaGreatE5
import Derived.Test.YtkgoajnnkimkaaaGreatE2
set_option linter.unusedSimpArgs false
set_option linter.unusedVariables false
namespace Go.Proofs.YtkgoajnnkimkaaaGreat
open Go.ChangeShapes Go.WideShapes Go.ChangeAt Go.RowKit

theorem append_ts_op {o : Oper} {a : Act} {Q : Exit → Act → World → Prop} {K : Act → World → Prop} {wr : World} (s x : Operand) (ho : o.op = .call { callee := .builtin .append, args := #[s, x], argTypes := #[62, 62] })
    {base base' : Nat} {v : Value} {n : Nat} {ts us : List Tt} {A6 : Option Addr} {c6 : Nat} (hown : wr.ownsRow base 66 4 v n (tCells ts)) (hs : a.eval s = v) (hx : a.eval x = .slice A6 us.length c6) (hnew : wr.ownsRow base' 66 4 (.slice A6 us.length c6) us.length (tCells us))
    (hn : n + us.length ≤ 1000000) (hbase : base ≤ wr.heap.size)
    (hK : ∀ A c w', w'.ownsRow base 66 4 (.slice A (n + us.length) c) (n + us.length) (tCells (ts ++ us)) → wr.grownBy w' v.ownBlock → ((Value.slice A (n + us.length) c).ownBlock = v.ownBlock ∨ (Value.slice A (n + us.length) c).ownBlock = some wr.heap.size) →
      K (a.put o.dst (.slice A (n + us.length) c)) w') : Oper.wp Tryz.prog o a wr K Q := by
  obtain ⟨i0, hi, hz0, hz1, hz2⟩ := info_parts info_touch
  rcases hnew.2 with ⟨e6, h0⟩ | ⟨g6, cap6, cur6, e6, _⟩
  · injection e6 with e1 e2 e3
    subst e1 e3
    have hus : us = [] := List.eq_nil_of_length_eq_zero h0
    subst hus
    have hrun := run_append_owned_none (P := Tryz.prog) (w := wr) base 62 o.type 66 i0 4 Tryz.underlying62 hi v n (tCells ts) hown
    obtain ⟨A, c, rfl⟩ := own_form hown
    unfold Oper.wp execOp
    simp only [ho, resolve, invoke, builtin, Sem.run_bind, Sem.run_pure, Result.andThen_ok, List.map_toArray, List.map_cons, List.map_nil, hs, hx, List.length_nil, hrun]
    exact hK A c wr (by simpa using hown) (World.grownBy.refl _ _) (.inl rfl)
  · injection e6 with e1 e2 e3
    subst e1
    obtain ⟨v', w', hr, h2, h3, _, h4⟩ := run_append_own_at (P := Tryz.prog) wr base 62 o.type 66 i0 (.agg #[.int .i64 0, .int .i64 0, .bool false, .int .i64 0]) 4 32 Tryz.underlying62 hi hz0 hz1 hz2 rfl (by omega) v n (tCells ts) hown ⟨g6, 0, none⟩ us.length c6 (tCells us)
      (tCells_len us) (fun j u hu => by
        have hj : j < us.length * 4 := by rw [← tCells_len]; exact (List.getElem?_eq_some_iff.1 hu).1
        rw [add_mk, hnew.cellAt j hj]
        exact hu) (tCells_one us) (by unfold maxLen; omega) (by omega) hbase
    obtain ⟨A, c, rfl⟩ := own_form h2
    unfold Oper.wp execOp
    simp only [ho, resolve, invoke, builtin, Sem.run_bind, Sem.run_pure, Result.andThen_ok, List.map_toArray, List.map_cons, List.map_nil, hs, hx, hr]
    exact hK A c w' (by rw [tCells_append]; exact h2) h3 (by simpa using h4)
/-- All touches of a list of places. -/
noncomputable def toL (k : Cd) (ps : List Nat) : List Tt := ps.flatMap fun a => touchL k a (gt (mustN k) a)
theorem toL_snoc (k : Cd) (ps : List Nat) (a : Nat) : toL k (ps ++ [a]) = toL k ps ++ touchL k a (gt (mustN k) a) := by simp [toL]
theorem touchL_12 {k : Cd} (hr : Right k) (a h : Nat) : (touchL k a h).length ≤ 12 := by have := touchL_len k a h; have := hr.globals; omega
theorem toL_len {k : Cd} (hr : Right k) (ps : List Nat) : (toL k ps).length ≤ 12 * ps.length := by
  induction ps with
  | nil => simp [toL]
  | cons a r ih =>
    have h1 := touchL_12 hr a (gt (mustN k) a)
    have e : toL k (a :: r) = touchL k a (gt (mustN k) a) ++ toL k r := by simp [toL]
    rw [e, List.length_append, List.length_cons]
    omega
noncomputable def touchesN (k : Cd) : List Tt := toL k (listN k.ins.length (MetP k))

set_option maxRecDepth 100000 in
set_option maxHeartbeats 8000000 in
theorem touches_any {B L : Nat} (g : Nat) (v : CV) (k : Cd) (w : World) (hr : Right k) (hW : WAt w B g v k) (hcb : CdB L k) (hL : L ≤ 1048576) :
    Calls Tryz.prog 144 #[.pointer (some ⟨g, 0, none⟩)] w (NewT w (touchesN k)) := by
  have hWf := hW.full
  have hkf := hWf.code
  have hins := hr.ins
  have HKT := Lib.hid (fun W (hb : Below w.heap.size w W) => hWf.kat.to hb)
  have HMU := Lib.hid (fun W (hb : Below w.heap.size w W) => must_any g v k W hr (hWf.below hb))
  have HME := Lib.hid (fun W (hb : Below w.heap.size w W) => met_any g v k W hr (hWf.below hb))
  have HMK := Lib.hid (fun A c W B' (h : Rd W B' A ((markL k.ins.length (MetP k)).map bv)) => (show Calls Tryz.prog 119 #[.slice A k.ins.length c] W (NewNats W (listN k.ins.length (MetP k))) from by
    have HD := marked_any A c (markL k.ins.length (MetP k)) W h (by rw [markL_len]; omega)
    rw [listN_markL, markL_len] at HD
    exact HD))
  have HT := Lib.hid (fun a h (ha : a < k.ins.length) W (hb : Below w.heap.size w W) => touchesIn_any v k a h W hr (hkf.below hb) hcb hL ha)
  have HT12 := Lib.hid (fun a h => touchL_12 hr a h)
  have HTL := Lib.hid (fun ps => toL_len hr ps)
  have HXL := Lib.hid (show ∀ a ∈ listN k.ins.length (MetP k), a < k.ins.length from fun a h => (mem_listN.1 h).1)
  have hll := listN_len k.ins.length (MetP k)
  have HTN := Lib.hid (show touchesN k = toL k (listN k.ins.length (MetP k)) from rfl)
  clear hr hW hWf hkf hcb
  go_enter Tryz.func144, Tryz.ntmps144
  go_wp2_with fail
  refine (HMU.out _ (Below.refl _ _)).mono ?_
  rintro e w1 ⟨Au, cu, rfl, hou, hb1⟩
  rw [mustN_len] at hou ⊢
  go_wp2_with fail
  refine (HME.out _ hb1).mono ?_
  rintro e w2 ⟨Am, cm, rfl, hom, hb2⟩
  rw [markL_len]
  go_wp2_with fail
  refine (HMK.out Am cm _ _ (own_rd hom)).mono ?_
  rintro e w4 ⟨Al, cl, rfl, hol, hb4⟩
  have h04 := below_trans' (below_trans' hb1 hb2) hb4
  have hru := ((own_rd hou).below (below_trans' hb2 hb4)).full
  have hrl := own_rd hol
  obtain ⟨c0, c1, c2, c3, c4⟩ := HKT.out _ h04
  clear hou hom hol hb1 hb2 hb4
  generalize listN k.ins.length (MetP k) = ls at *
  go_wp2_with fail
  go_loopg [4, 13] ls.length (fun l out i wr => ∃ j : Nat, j ≤ ls.length ∧ l = ls.length - j ∧ i = .int .i64 j ∧ wr.ownsRow w4.heap.size 66 4 out (toL k (ls.take j)).length (tCells (toL k (ls.take j))) ∧ Below w4.heap.size w4 wr)
  case atStart => exact ⟨0, by omega, by omega, rfl, World.ownsRow_nil _ _ _ _, Below.refl _ _⟩
  case round =>
    obtain ⟨j, hj, rfl, rfl, ho, hb⟩ := hrel
    obtain ⟨co, Ao, rfl⟩ : ∃ co Ao, _ := by
      obtain ⟨Ao, co, e⟩ := own_form ho
      exact ⟨co, Ao, e⟩
    have hsz := hb.size
    have htl := HTL.out (ls.take j)
    rw [List.length_take] at htl
    by_cases hlt : j < ls.length
    · obtain ⟨adl, eal, _, hcl⟩ := (hrl.below hb).nat hlt
      have hal := HXL.out ls[j] (List.getElem_mem hlt)
      have HTK := Lib.hid (show toL k (ls.take (j + 1)) = toL k (ls.take j) ++ touchL k ls[j] (gt (mustN k) ls[j]) from by rw [List.take_succ_eq_append_getElem hlt, toL_snoc])
      generalize ls[j] = a at *
      subst eal
      obtain ⟨adu, eau, _, hcm⟩ := hru.nat (j := a) (by rw [mustN_len]; exact hal)
      subst eau
      rw [gt_get (xs := mustN k) (by rw [mustN_len]; exact hal)] at hcm
      have z1 : (0 : Int) ≤ (j : Int) := by omega
      have z2 : (j : Int) < (ls.length : Int) := by omega
      have x1 : (0 : Int) ≤ (a : Int) := by omega
      have x2 : (a : Int) < (k.ins.length : Int) := by omega
      go_wp2_with fail
      refine wp_region_held_drew (S := fun w' => Below w4.heap.size w4 w') (by kernel_rfl) (hb.drew) (fun hHeld => ?_)
      first | (refine hand_skip (i := 0) rfl (by kernel_rfl) (by kernel_rfl) (by kernel_rfl) (fun _ _ _ h => h) (by rfl) (by assumption) ?_) | (refine hand_run (i := 0) (v := ?_) rfl (by kernel_rfl) (by kernel_rfl) (by kernel_rfl) (fun _ _ _ h => h) (by rfl) ?_ (by assumption) ?_; rotate_left; (intro W hW; have f0 := cell_below hW c0; have f1 := cell_below hW c1; have f2 := cell_below hW c2; have f3 := cell_below hW c3; have f4 := cell_below hW c4; have f5 := cell_below hW hcm; first | (go_simp; done) | (go_simp; with_reducible rfl)))
      (try simp only [Act.put, List.setIfInBounds_toArray, List.set_cons_zero, List.set_cons_succ])
      first | (refine hand_skip (i := 1) rfl (by kernel_rfl) (by kernel_rfl) (by kernel_rfl) (fun _ _ _ h => h) (by rfl) (by assumption) ?_) | (refine hand_run (i := 1) (v := ?_) rfl (by kernel_rfl) (by kernel_rfl) (by kernel_rfl) (fun _ _ _ h => h) (by rfl) ?_ (by assumption) ?_; rotate_left; (intro W hW; have f0 := cell_below hW c0; have f1 := cell_below hW c1; have f2 := cell_below hW c2; have f3 := cell_below hW c3; have f4 := cell_below hW c4; have f5 := cell_below hW hcm; first | (go_simp; done) | (go_simp; with_reducible rfl)))
      (try simp only [Act.put, List.setIfInBounds_toArray, List.set_cons_zero, List.set_cons_succ])
      first | (refine hand_skip (i := 2) rfl (by kernel_rfl) (by kernel_rfl) (by kernel_rfl) (fun _ _ _ h => h) (by rfl) (by assumption) ?_) | (refine hand_run (i := 2) (v := ?_) rfl (by kernel_rfl) (by kernel_rfl) (by kernel_rfl) (fun _ _ _ h => h) (by rfl) ?_ (by assumption) ?_; rotate_left; (intro W hW; have f0 := cell_below hW c0; have f1 := cell_below hW c1; have f2 := cell_below hW c2; have f3 := cell_below hW c3; have f4 := cell_below hW c4; have f5 := cell_below hW hcm; first | (go_simp; done) | (go_simp; with_reducible rfl)))
      (try simp only [Act.put, List.setIfInBounds_toArray, List.set_cons_zero, List.set_cons_succ])
      first | (refine hand_skip (i := 3) rfl (by kernel_rfl) (by kernel_rfl) (by kernel_rfl) (fun _ _ _ h => h) (by rfl) (by assumption) ?_) | (refine hand_run (i := 3) (v := ?_) rfl (by kernel_rfl) (by kernel_rfl) (by kernel_rfl) (fun _ _ _ h => h) (by rfl) ?_ (by assumption) ?_; rotate_left; (intro W hW; have f0 := cell_below hW c0; have f1 := cell_below hW c1; have f2 := cell_below hW c2; have f3 := cell_below hW c3; have f4 := cell_below hW c4; have f5 := cell_below hW hcm; first | (go_simp; done) | (go_simp; with_reducible rfl)))
      (try simp only [Act.put, List.setIfInBounds_toArray, List.set_cons_zero, List.set_cons_succ])
      first | (refine hand_skip (i := 4) rfl (by kernel_rfl) (by kernel_rfl) (by kernel_rfl) (fun _ _ _ h => h) (by rfl) (by assumption) ?_) | (refine hand_run (i := 4) (v := ?_) rfl (by kernel_rfl) (by kernel_rfl) (by kernel_rfl) (fun _ _ _ h => h) (by rfl) ?_ (by assumption) ?_; rotate_left; (intro W hW; have f0 := cell_below hW c0; have f1 := cell_below hW c1; have f2 := cell_below hW c2; have f3 := cell_below hW c3; have f4 := cell_below hW c4; have f5 := cell_below hW hcm; first | (go_simp; done) | (go_simp; with_reducible rfl)))
      (try simp only [Act.put, List.setIfInBounds_toArray, List.set_cons_zero, List.set_cons_succ])
      first | (refine hand_skip (i := 5) rfl (by kernel_rfl) (by kernel_rfl) (by kernel_rfl) (fun _ _ _ h => h) (by rfl) (by assumption) ?_) | (refine hand_run (i := 5) (v := ?_) rfl (by kernel_rfl) (by kernel_rfl) (by kernel_rfl) (fun _ _ _ h => h) (by rfl) ?_ (by assumption) ?_; rotate_left; (intro W hW; have f0 := cell_below hW c0; have f1 := cell_below hW c1; have f2 := cell_below hW c2; have f3 := cell_below hW c3; have f4 := cell_below hW c4; have f5 := cell_below hW hcm; first | (go_simp; done) | (go_simp; with_reducible rfl)))
      (try simp only [Act.put, List.setIfInBounds_toArray, List.set_cons_zero, List.set_cons_succ])
      first | (refine hand_skip (i := 6) rfl (by kernel_rfl) (by kernel_rfl) (by kernel_rfl) (fun _ _ _ h => h) (by rfl) (by assumption) ?_) | (refine hand_run (i := 6) (v := ?_) rfl (by kernel_rfl) (by kernel_rfl) (by kernel_rfl) (fun _ _ _ h => h) (by rfl) ?_ (by assumption) ?_; rotate_left; (intro W hW; have f0 := cell_below hW c0; have f1 := cell_below hW c1; have f2 := cell_below hW c2; have f3 := cell_below hW c3; have f4 := cell_below hW c4; have f5 := cell_below hW hcm; first | (go_simp; done) | (go_simp; with_reducible rfl)))
      (try simp only [Act.put, List.setIfInBounds_toArray, List.set_cons_zero, List.set_cons_succ])
      first | (refine hand_skip (i := 7) rfl (by kernel_rfl) (by kernel_rfl) (by kernel_rfl) (fun _ _ _ h => h) (by rfl) (by assumption) ?_) | (refine hand_run (i := 7) (v := ?_) rfl (by kernel_rfl) (by kernel_rfl) (by kernel_rfl) (fun _ _ _ h => h) (by rfl) ?_ (by assumption) ?_; rotate_left; (intro W hW; have f0 := cell_below hW c0; have f1 := cell_below hW c1; have f2 := cell_below hW c2; have f3 := cell_below hW c3; have f4 := cell_below hW c4; have f5 := cell_below hW hcm; first | (go_simp; done) | (go_simp; with_reducible rfl)))
      (try simp only [Act.put, List.setIfInBounds_toArray, List.set_cons_zero, List.set_cons_succ])
      first | (refine hand_skip (i := 8) rfl (by kernel_rfl) (by kernel_rfl) (by kernel_rfl) (fun _ _ _ h => h) (by rfl) (by assumption) ?_) | (refine hand_run (i := 8) (v := ?_) rfl (by kernel_rfl) (by kernel_rfl) (by kernel_rfl) (fun _ _ _ h => h) (by rfl) ?_ (by assumption) ?_; rotate_left; (intro W hW; have f0 := cell_below hW c0; have f1 := cell_below hW c1; have f2 := cell_below hW c2; have f3 := cell_below hW c3; have f4 := cell_below hW c4; have f5 := cell_below hW hcm; first | (go_simp; done) | (go_simp; with_reducible rfl)))
      (try simp only [Act.put, List.setIfInBounds_toArray, List.set_cons_zero, List.set_cons_succ])
      first | (refine hand_skip (i := 9) rfl (by kernel_rfl) (by kernel_rfl) (by kernel_rfl) (fun _ _ _ h => h) (by rfl) (by assumption) ?_) | (refine hand_run (i := 9) (v := ?_) rfl (by kernel_rfl) (by kernel_rfl) (by kernel_rfl) (fun _ _ _ h => h) (by rfl) ?_ (by assumption) ?_; rotate_left; (intro W hW; have f0 := cell_below hW c0; have f1 := cell_below hW c1; have f2 := cell_below hW c2; have f3 := cell_below hW c3; have f4 := cell_below hW c4; have f5 := cell_below hW hcm; first | (go_simp; done) | (go_simp; with_reducible rfl)))
      (try simp only [Act.put, List.setIfInBounds_toArray, List.set_cons_zero, List.set_cons_succ])
      refine hand_one (i := 10) rfl (by kernel_rfl) (fun K hK => ?_)
      refine q_yes (by rfl) ?_
      go_simp
      refine (HT.out a _ hal _ (below_trans' h04 hHeld)).mono ?_
      rintro e w6 ⟨A6, c6, rfl, ho6, hb6⟩
      have ho5 := own_below (w := wr.drew) ho hb6
      have hsz6 := Nat.le_trans hsz hb6.size
      have h12 := HT12.out a (gt (mustN k) a)
      refine hK.out _ _ (below_trans' hHeld hb6) (fun hHeld => ?_)
      clear hK K
      (try simp only [Act.put, List.setIfInBounds_toArray, List.set_cons_zero, List.set_cons_succ])
      refine hand_one (i := 11) rfl (by kernel_rfl) (fun K hK => ?_)
      refine q_yes (by rfl) ?_
      refine append_ts_op _ _ rfl ho5 rfl rfl ho6 (by omega) hsz6 ?_
      intro A7 c7 w7 ho7 hg7 hv7
      have hHeld7 := below_append hHeld ho5 hg7 hsz6 (Nat.le_refl _)
      refine hK.out _ _ (hHeld7) (fun hHeld => ?_)
      clear hK K
      (try simp only [Act.put, List.setIfInBounds_toArray, List.set_cons_zero, List.set_cons_succ])
      first | (refine hand_skip (i := 12) rfl (by kernel_rfl) (by kernel_rfl) (by kernel_rfl) (fun _ _ _ h => h) (by rfl) (by assumption) ?_) | (refine hand_run (i := 12) (v := ?_) rfl (by kernel_rfl) (by kernel_rfl) (by kernel_rfl) (fun _ _ _ h => h) (by rfl) ?_ (by assumption) ?_; rotate_left; (intro W hW; have f0 := cell_below hW c0; have f1 := cell_below hW c1; have f2 := cell_below hW c2; have f3 := cell_below hW c3; have f4 := cell_below hW c4; have f5 := cell_below hW hcm; first | (go_simp; done) | (go_simp; with_reducible rfl)))
      (try simp only [Act.put, List.setIfInBounds_toArray, List.set_cons_zero, List.set_cons_succ])
      refine wpAnyH_done (by kernel_rfl) ?_ _
      go_wp2_with fail
      go_roundg (ls.length - (j + 1))
      case measure => omega
      case rel => exact ⟨j + 1, by omega, rfl, by go_num, by rw [HTK.out, List.length_append]; exact ho7, hHeld⟩
    · obtain rfl : j = ls.length := by omega
      have HFI := Lib.hid (show NewT w (touchesN k) (.returned (.slice Ao (toL k (ls.take ls.length)).length co)) wr from by
        rw [List.take_length] at ho ⊢
        rw [HTN.out]
        exact ⟨Ao, co, rfl, own_mono ho h04.size, below_trans' h04 hb⟩)
      go_wp2_with fail
      go_ret
      exact HFI.out

set_option maxRecDepth 100000 in
set_option maxHeartbeats 8000000 in
theorem l17All_any {B L : Nat} (v : CV) (k : Cd) (w : World) (hr : Right k) (hk : CodeAt w B v k) (hcb : CdB L k) (hL : L ≤ 1048576) :
    Calls Tryz.prog 145 #[.agg #[.slice v.gA k.globals.length v.gc, .slice v.lA k.locks.length v.lc, .slice v.pA k.procs.length v.pc, .slice v.eA k.entry.length v.ec, .slice v.iA k.ins.length v.ic]] w (NewT w (touchesN k)) := by
  have hkf := hk.full
  have hins := hr.ins
  have hbx : CodeBox w v k ((w.alloc (.cells #[.slice v.gA k.globals.length v.gc, .slice v.lA k.locks.length v.lc, .slice v.pA k.procs.length v.pc, .slice v.eA k.entry.length v.ec, .slice v.iA k.ins.length v.ic] 28)).alloc (.cells #[] 66)) := (codeBox w v k).to (below_alloc0 _ _)
  have hpo : ((w.alloc (.cells #[.slice v.gA k.globals.length v.gc, .slice v.lA k.locks.length v.lc, .slice v.pA k.procs.length v.pc, .slice v.eA k.entry.length v.ec, .slice v.iA k.ins.length v.ic] 28)).alloc (.cells #[] 66)).ownsRow (w.heap.size + 1) 66 4 (.slice (some ⟨w.heap.size + 1, 0, none⟩) 0 0) 0 (tCells []) := by
    have := World.ownsRow_lit (base := w.heap.size + 1) (e := 66) (size := 4) (w.alloc (.cells #[.slice v.gA k.globals.length v.gc, .slice v.lA k.locks.length v.lc, .slice v.pA k.procs.length v.pc, .slice v.eA k.entry.length v.ec, .slice v.iA k.ins.length v.ic] 28)) #[] 0 (by simp) (by simp) rfl
    simpa [tCells] using this
  have hW2 : w.heap.size + 1 < ((w.alloc (.cells #[.slice v.gA k.globals.length v.gc, .slice v.lA k.locks.length v.lc, .slice v.pA k.procs.length v.pc, .slice v.eA k.entry.length v.ec, .slice v.iA k.ins.length v.ic] 28)).alloc (.cells #[] 66)).heap.size := by simp
  have HMU := Lib.hid (fun W (hb : Below w.heap.size w W) => l15Must_any v k W hr (hkf.below hb) hcb hL)
  have HME := Lib.hid (fun W (hb : Below w.heap.size w W) => l16All_any v k W hr (hkf.below hb) hcb hL)
  have HT := Lib.hid (fun a h (ha : a < k.ins.length) W (hb : Below w.heap.size w W) => l17At_any v k a h W hr (hkf.below hb) hcb hL ha)
  have HT12 := Lib.hid (fun a h => touchL_12 hr a h)
  have HTL := Lib.hid (fun ps => toL_len hr ps)
  have HTN := Lib.hid (show touchesN k = toL k (listN k.ins.length (MetP k)) from rfl)
  clear hr hk hkf hcb
  go_enter Tryz.func145, Tryz.ntmps145
  go_wp2_with fail
  generalize (w.alloc (.cells #[.slice v.gA k.globals.length v.gc, .slice v.lA k.locks.length v.lc, .slice v.pA k.procs.length v.pc, .slice v.eA k.entry.length v.ec, .slice v.iA k.ins.length v.ic] 28)).alloc (.cells #[] 66) = W at hbx hpo hW2 ⊢
  refine (HMU.out _ hbx.1).mono ?_
  rintro e w2 ⟨Au, cu, rfl, hou, hb2⟩
  rw [mustN_len] at hou ⊢
  have hbx2 := hbx.to hb2
  have ho2 := own_below hpo hb2
  obtain ⟨q1, q2, c0, c1, c2, c3, c4⟩ := id hbx2
  go_wp2_with fail
  refine (HME.out _ hbx2.1).mono ?_
  rintro e w3 ⟨g, gm, gx, rfl, hLK, hb3⟩
  have hbx3 := hbx2.to hb3
  have ho3 := own_below ho2 hb3
  have c5 := hLK.cell 5 rfl
  have hw12 : w.heap.size + 1 < w2.heap.size := Nat.lt_of_lt_of_le hW2 hb2.size
  have hw13 : w.heap.size + 1 < w3.heap.size := Nat.lt_of_lt_of_le hw12 hb3.size
  have hou3 := own_below hou hb3
  have HRU := Lib.hid (fun V (h : Tch (w.heap.size + 1) (w.heap.size + 1) (w.heap.size + 1) w3 V) => own_rd (h.own hou3 hW2 hW2 hW2))
  have HRM := Lib.hid (fun V (h : Tch (w.heap.size + 1) (w.heap.size + 1) (w.heap.size + 1) w3 V) => h.own hLK.rm hw12 hw12 hw12)
  have HBX := Lib.hid (fun V (h : Tch (w.heap.size + 1) (w.heap.size + 1) (w.heap.size + 1) w3 V) => hbx3.at (h.below (B := w.heap.size + 1) (Nat.le_of_lt hw13) (Nat.le_refl _) (Nat.le_refl _) (Nat.le_refl _)) (by omega))
  clear q1 q2 c0 c1 c2 c3 c4 hou hb2 hb3 hpo ho2 hbx hbx2 hou3 hLK
  obtain ⟨q1, q2, c0, c1, c2, c3, c4⟩ := id hbx3
  go_wp2_with fail
  clear q1 q2 c0 c1 c2 c3 c4 c5 hbx3
  go_loopg [3, 6] k.ins.length (fun l out i wr => ∃ j : Nat, j ≤ k.ins.length ∧ l = k.ins.length - j ∧ i = .int .i64 j ∧ wr.ownsRow (w.heap.size + 1) 66 4 out (toL k (listN j (MetP k))).length (tCells (toL k (listN j (MetP k)))) ∧ OBk (w.heap.size + 1) w3.heap.size out ∧ Tch (w.heap.size + 1) (w.heap.size + 1) (w.heap.size + 1) w3 wr)
  case atStart => exact ⟨0, by omega, by omega, rfl, ho3, fun b hb => .inl (by injection hb with hb; exact hb.symm), Tch.refl _ _ _ _⟩
  case round =>
    clear ho3
    obtain ⟨i, hj, rfl, rfl, ho, hOB, hT⟩ := hrel
    obtain ⟨co, Ao, rfl⟩ : ∃ co Ao, _ := by
      obtain ⟨Ao, co, e⟩ := own_form ho
      exact ⟨co, Ao, e⟩
    have htl := HTL.out (listN i (MetP k))
    have hli := listN_len i (MetP k)
    have hbxr := HBX.out _ hT
    obtain ⟨q1, q2, c0, c1, c2, c3, c4⟩ := id hbxr
    by_cases hlt : i < k.ins.length
    · have hcm := own_at (HRM.out _ hT) (j := i) hlt (u := .bool (mkd (markL k.ins.length (MetP k)) i)) (by rw [List.getElem?_map, List.getElem?_eq_getElem (by rw [markL_len]; exact hlt), mkd_get (by rw [markL_len]; exact hlt)]; rfl)
      obtain ⟨adu, eau, _, _⟩ := (HRU.out _ hT).nat (j := i) (by rw [mustN_len]; exact hlt)
      subst eau
      have HMC := Lib.hid (show ∀ V, Tch (w.heap.size + 1) (w.heap.size + 1) (w.heap.size + 1) w3 V → V.cell? (adu.add i) = some (.int .i64 ((gt (mustN k) i : Nat) : Int)) from fun V h => by
        obtain ⟨ad, e, _, c⟩ := (HRU.out _ h).nat (j := i) (by rw [mustN_len]; exact hlt)
        injection e with e
        subst e
        rw [gt_get (xs := mustN k) (by rw [mustN_len]; exact hlt)] at c
        exact c)
      have z1 : (0 : Int) ≤ (i : Int) := by omega
      have z2 : (i : Int) < (k.ins.length : Int) := by omega
      by_cases hm : MetP k i
      · rw [mkd_markL_pos hlt hm] at hcm
        have HTK := Lib.hid (show toL k (listN (i + 1) (MetP k)) = toL k (listN i (MetP k)) ++ touchL k i (gt (mustN k) i) from by rw [listN_step hm, toL_snoc])
        clear hm
        go_wp2_with fail
        refine wp_region_held_drew (S := fun w' => Tch (w.heap.size + 1) (w.heap.size + 1) (w.heap.size + 1) w3 w') (by kernel_rfl) (hT.drew) (fun hHeld => ?_)
        first | (refine hand_skip (i := 0) rfl (by kernel_rfl) (by kernel_rfl) (by kernel_rfl) (fun _ _ _ h => h) (by rfl) (by assumption) ?_) | (refine hand_run (i := 0) (v := ?_) rfl (by kernel_rfl) (by kernel_rfl) (by kernel_rfl) (fun _ _ _ h => h) (by rfl) ?_ (by assumption) ?_; rotate_left; (intro W hW; obtain ⟨_, _, f0, f1, f2, f3, f4⟩ := HBX.out _ hW; have f5 := HMC.out _ hW; first | (go_simp; done) | (go_simp; with_reducible rfl)))
        (try simp only [Act.put, List.setIfInBounds_toArray, List.set_cons_zero, List.set_cons_succ])
        first | (refine hand_skip (i := 1) rfl (by kernel_rfl) (by kernel_rfl) (by kernel_rfl) (fun _ _ _ h => h) (by rfl) (by assumption) ?_) | (refine hand_run (i := 1) (v := ?_) rfl (by kernel_rfl) (by kernel_rfl) (by kernel_rfl) (fun _ _ _ h => h) (by rfl) ?_ (by assumption) ?_; rotate_left; (intro W hW; obtain ⟨_, _, f0, f1, f2, f3, f4⟩ := HBX.out _ hW; have f5 := HMC.out _ hW; first | (go_simp; done) | (go_simp; with_reducible rfl)))
        (try simp only [Act.put, List.setIfInBounds_toArray, List.set_cons_zero, List.set_cons_succ])
        first | (refine hand_skip (i := 2) rfl (by kernel_rfl) (by kernel_rfl) (by kernel_rfl) (fun _ _ _ h => h) (by rfl) (by assumption) ?_) | (refine hand_run (i := 2) (v := ?_) rfl (by kernel_rfl) (by kernel_rfl) (by kernel_rfl) (fun _ _ _ h => h) (by rfl) ?_ (by assumption) ?_; rotate_left; (intro W hW; obtain ⟨_, _, f0, f1, f2, f3, f4⟩ := HBX.out _ hW; have f5 := HMC.out _ hW; first | (go_simp; done) | (go_simp; with_reducible rfl)))
        (try simp only [Act.put, List.setIfInBounds_toArray, List.set_cons_zero, List.set_cons_succ])
        first | (refine hand_skip (i := 3) rfl (by kernel_rfl) (by kernel_rfl) (by kernel_rfl) (fun _ _ _ h => h) (by rfl) (by assumption) ?_) | (refine hand_run (i := 3) (v := ?_) rfl (by kernel_rfl) (by kernel_rfl) (by kernel_rfl) (fun _ _ _ h => h) (by rfl) ?_ (by assumption) ?_; rotate_left; (intro W hW; obtain ⟨_, _, f0, f1, f2, f3, f4⟩ := HBX.out _ hW; have f5 := HMC.out _ hW; first | (go_simp; done) | (go_simp; with_reducible rfl)))
        (try simp only [Act.put, List.setIfInBounds_toArray, List.set_cons_zero, List.set_cons_succ])
        first | (refine hand_skip (i := 4) rfl (by kernel_rfl) (by kernel_rfl) (by kernel_rfl) (fun _ _ _ h => h) (by rfl) (by assumption) ?_) | (refine hand_run (i := 4) (v := ?_) rfl (by kernel_rfl) (by kernel_rfl) (by kernel_rfl) (fun _ _ _ h => h) (by rfl) ?_ (by assumption) ?_; rotate_left; (intro W hW; obtain ⟨_, _, f0, f1, f2, f3, f4⟩ := HBX.out _ hW; have f5 := HMC.out _ hW; first | (go_simp; done) | (go_simp; with_reducible rfl)))
        (try simp only [Act.put, List.setIfInBounds_toArray, List.set_cons_zero, List.set_cons_succ])
        first | (refine hand_skip (i := 5) rfl (by kernel_rfl) (by kernel_rfl) (by kernel_rfl) (fun _ _ _ h => h) (by rfl) (by assumption) ?_) | (refine hand_run (i := 5) (v := ?_) rfl (by kernel_rfl) (by kernel_rfl) (by kernel_rfl) (fun _ _ _ h => h) (by rfl) ?_ (by assumption) ?_; rotate_left; (intro W hW; obtain ⟨_, _, f0, f1, f2, f3, f4⟩ := HBX.out _ hW; have f5 := HMC.out _ hW; first | (go_simp; done) | (go_simp; with_reducible rfl)))
        (try simp only [Act.put, List.setIfInBounds_toArray, List.set_cons_zero, List.set_cons_succ])
        first | (refine hand_skip (i := 6) rfl (by kernel_rfl) (by kernel_rfl) (by kernel_rfl) (fun _ _ _ h => h) (by rfl) (by assumption) ?_) | (refine hand_run (i := 6) (v := ?_) rfl (by kernel_rfl) (by kernel_rfl) (by kernel_rfl) (fun _ _ _ h => h) (by rfl) ?_ (by assumption) ?_; rotate_left; (intro W hW; obtain ⟨_, _, f0, f1, f2, f3, f4⟩ := HBX.out _ hW; have f5 := HMC.out _ hW; first | (go_simp; done) | (go_simp; with_reducible rfl)))
        (try simp only [Act.put, List.setIfInBounds_toArray, List.set_cons_zero, List.set_cons_succ])
        refine hand_one (i := 7) rfl (by kernel_rfl) (fun K hK => ?_)
        refine q_yes (by rfl) ?_
        go_simp
        refine (HT.out i _ hlt _ (HBX.out _ hHeld).1).mono ?_
        rintro e w6 ⟨A6, c6, rfl, ho6, hb6⟩
        have ho5 := own_below (w := wr.drew) ho hb6
        have hHeld6 := hHeld.trans (Tch.of_below hb6)
        have hsz6 : w.heap.size + 1 ≤ w6.heap.size := Nat.le_trans (Nat.le_of_lt hw13) hHeld6.size
        have h12 := HT12.out i (gt (mustN k) i)
        refine hK.out _ _ (hHeld6) (fun hHeld => ?_)
        clear hK K
        (try simp only [Act.put, List.setIfInBounds_toArray, List.set_cons_zero, List.set_cons_succ])
        refine hand_one (i := 8) rfl (by kernel_rfl) (fun K hK => ?_)
        refine q_yes (by rfl) ?_
        refine append_ts_op _ _ rfl ho5 rfl rfl ho6 (by omega) hsz6 ?_
        intro A7 c7 w7 ho7 hg7 hv7
        have hHeld7 := hHeld.app hg7 hOB
        have hsz7 := hHeld.size
        have hOB7 : OBk (w.heap.size + 1) w3.heap.size _ := fun b hb => hv7.elim (fun e => hOB b (e.symm.trans hb)) (fun e => by rw [e] at hb; injection hb with hb; exact .inr (by omega))
        refine hK.out _ _ (hHeld7) (fun hHeld => ?_)
        clear hK K
        (try simp only [Act.put, List.setIfInBounds_toArray, List.set_cons_zero, List.set_cons_succ])
        first | (refine hand_skip (i := 9) rfl (by kernel_rfl) (by kernel_rfl) (by kernel_rfl) (fun _ _ _ h => h) (by rfl) (by assumption) ?_) | (refine hand_run (i := 9) (v := ?_) rfl (by kernel_rfl) (by kernel_rfl) (by kernel_rfl) (fun _ _ _ h => h) (by rfl) ?_ (by assumption) ?_; rotate_left; (intro W hW; obtain ⟨_, _, f0, f1, f2, f3, f4⟩ := HBX.out _ hW; have f5 := HMC.out _ hW; first | (go_simp; done) | (go_simp; with_reducible rfl)))
        (try simp only [Act.put, List.setIfInBounds_toArray, List.set_cons_zero, List.set_cons_succ])
        refine wpAnyH_done (by kernel_rfl) ?_ _
        clear q1 q2 c0 c1 c2 c3 c4
        go_wp2_with fail
        go_roundg (k.ins.length - (i + 1))
        case measure => omega
        case rel => exact ⟨i + 1, by omega, rfl, by go_num, by rw [HTK.out, List.length_append]; exact ho7, hOB7, hHeld⟩
      · rw [mkd_markL_neg hm] at hcm
        have HTK := Lib.hid (show listN (i + 1) (MetP k) = listN i (MetP k) from listN_skip hm)
        clear hm
        go_wp2_with fail
        go_roundg (k.ins.length - (i + 1))
        case measure => omega
        case rel => exact ⟨i + 1, by omega, rfl, by go_num, by rw [HTK.out]; exact ho, hOB, hT⟩
    · obtain rfl : i = k.ins.length := by omega
      have HFI := Lib.hid (show NewT w (touchesN k) (.returned (.slice Ao (toL k (listN k.ins.length (MetP k))).length co)) wr from by
        rw [HTN.out]
        exact ⟨Ao, co, rfl, own_mono ho (by omega), hbxr.1⟩)
      go_wp2_with fail
      go_ret
      exact HFI.out
/-- Touches in right code, else nothing. -/
noncomputable def codeT (k : Cd) (ts : List Tt) : List Tt := if codeOkI k = true then ts else []
theorem codeT_no {k : Cd} {ts : List Tt} (h : codeOkI k = false) : codeT k ts = [] := by rw [codeT, if_neg (by rw [h]; simp)]
theorem codeT_yes {k : Cd} {ts : List Tt} (h : codeOkI k = true) : codeT k ts = ts := by rw [codeT, if_pos h]
theorem codeT_len (k : Cd) : (codeT k (touchesN k)).length ≤ 18000 := by
  cases h : codeOkI k
  · rw [codeT_no h]; simp
  · rw [codeT_yes h]
    have h1 := toL_len (right_of h) (listN k.ins.length (MetP k))
    have h2 := listN_len k.ins.length (MetP k)
    have h3 := (right_of h).ins
    unfold touchesN
    omega

set_option maxHeartbeats 1000000 in
theorem touchesOf_i {B L : Nat} (v : CV) (k : Cd) (w : World) (hk : CodeAt w B v k) (hcb : CdB L k) (hL : L ≤ 1048576) :
    Calls Tryz.prog 75 #[.agg #[.slice v.gA k.globals.length v.gc, .slice v.lA k.locks.length v.lc, .slice v.pA k.procs.length v.pc, .slice v.eA k.entry.length v.ec, .slice v.iA k.ins.length v.ic]] w (NewT w (codeT k (touchesN k))) := by
  have hkf := hk.full
  have hbx := codeBox w v k
  have hpl0 := hcb.procs
  have hil0 := hcb.ins
  cases hok : codeOkI k
  · have HW := Lib.hid (fun W (h : CodeAt W w.heap.size v k) => worldOf_no v k W h hcb (by omega) hok)
    have HZ := Lib.hid (show ∀ w', Below w.heap.size w w' → NewT w (codeT k (touchesN k)) (.returned (.slice none 0 0)) w' from fun w' h => by rw [codeT_no hok]; exact ⟨none, 0, rfl, World.ownsRow_nil _ _ _ _, h⟩)
    clear hok hcb hk
    go_enter Tryz.func75, Tryz.ntmps75
    go_wp2_with fail
    generalize w.alloc (.cells #[.slice v.gA k.globals.length v.gc, .slice v.lA k.locks.length v.lc, .slice v.pA k.procs.length v.pc, .slice v.eA k.entry.length v.ec, .slice v.iA k.ins.length v.ic] 28) = W at hbx ⊢
    refine (HW.out _ (hkf.below hbx.1)).mono ?_
    rintro e w1 ⟨rfl, hb1⟩
    go_wp2_with fail
    go_ret
    exact HZ.out _ (below_trans' hbx.1 hb1)
  · have HR := Lib.hid (right_of hok)
    have HW := Lib.hid (fun W (h : CodeAt W w.heap.size v k) => worldOf_yes v k W h hcb (by omega) hok)
    have HY := Lib.hid (codeT_yes (ts := touchesN k) hok)
    have HCB := Lib.hid hcb
    clear hok hcb hk
    go_enter Tryz.func75, Tryz.ntmps75
    go_wp2_with fail
    generalize w.alloc (.cells #[.slice v.gA k.globals.length v.gc, .slice v.lA k.locks.length v.lc, .slice v.pA k.procs.length v.pc, .slice v.eA k.entry.length v.ec, .slice v.iA k.ins.length v.ic] 28) = W at hbx ⊢
    refine (HW.out _ (hkf.below hbx.1)).mono ?_
    rintro e w2 ⟨g, rfl, hgl, hW2, hb1⟩
    have hbx2 := hbx.to hb1
    have hb02 := hbx2.1
    clear hbx hb1
    have HC := Lib.hid (touches_any g v k w2 HR.out hW2 HCB.out hL)
    go_wp2_with fail
    refine HC.out.mono ?_
    rintro e w3 ⟨A3, c3', rfl, ho3, hb3⟩
    go_wp2_with fail
    go_ret
    exact NewT.more ⟨A3, c3', rfl, ho3, hb3⟩ hb02 HY.out

set_option maxHeartbeats 1000000 in
theorem touchesOf_s {B L : Nat} (v : CV) (k : Cd) (w : World) (hk : CodeAt w B v k) (hcb : CdB L k) (hL : L ≤ 1048576) :
    Calls Tryz.prog 77 #[.agg #[.slice v.gA k.globals.length v.gc, .slice v.lA k.locks.length v.lc, .slice v.pA k.procs.length v.pc, .slice v.eA k.entry.length v.ec, .slice v.iA k.ins.length v.ic]] w (NewT w (codeT k (touchesN k))) := by
  have hkf := hk.full
  have hbx := codeBox w v k
  have hpl0 := hcb.procs
  have hil0 := hcb.ins
  have HG := Lib.hid (fun W (h : CodeAt W w.heap.size v k) => codeOk_sI v k W h hcb (by omega))
  cases hok : codeOkI k
  · have HZ := Lib.hid (show ∀ W, Below w.heap.size w W → NewT w (codeT k (touchesN k)) (.returned (.slice (some ⟨W.heap.size, 0, none⟩) 0 0)) (W.alloc (.cells #[] 66)) from fun W h => by rw [codeT_no hok]; exact ⟨_, _, rfl, World.ownsRow_lit _ #[] 0 h.size (by simp) rfl, below_alloc h (Nat.le_refl _) _⟩)
    rw [hok] at HG
    clear hok hcb hk
    go_enter Tryz.func77, Tryz.ntmps77
    go_wp2_with fail
    generalize w.alloc (.cells #[.slice v.gA k.globals.length v.gc, .slice v.lA k.locks.length v.lc, .slice v.pA k.procs.length v.pc, .slice v.eA k.entry.length v.ec, .slice v.iA k.ins.length v.ic] 28) = W at hbx ⊢
    refine (HG.out _ (hkf.below hbx.1)).mono ?_
    rintro e w1 ⟨rfl, hb1⟩
    go_wp2_with fail
    go_ret
    exact HZ.out _ (below_trans' hbx.1 hb1)
  · rw [hok] at HG
    have hok1 : codeOkI k = true := hok
    have HR := Lib.hid (right_of hok1)
    have HY := Lib.hid (codeT_yes (ts := touchesN k) hok1)
    have HCB := Lib.hid hcb
    clear hok hok1 hcb hk
    go_enter Tryz.func77, Tryz.ntmps77
    go_wp2_with fail
    generalize w.alloc (.cells #[.slice v.gA k.globals.length v.gc, .slice v.lA k.locks.length v.lc, .slice v.pA k.procs.length v.pc, .slice v.eA k.entry.length v.ec, .slice v.iA k.ins.length v.ic] 28) = W at hbx ⊢
    refine (HG.out _ (hkf.below hbx.1)).mono ?_
    rintro e w2 ⟨rfl, hb2⟩
    have hbx2 := hbx.to hb2
    clear hbx hb2
    have hk2 := hkf.below hbx2.1
    have hb02 := hbx2.1
    obtain ⟨_, _, c0, c1, c2, c3, c4⟩ := id hbx2
    have HC := Lib.hid (l17All_any v k w2 HR.out hk2 HCB.out hL)
    go_wp2_with fail
    refine HC.out.mono ?_
    rintro e w3 ⟨A3, c3', rfl, ho3, hb3⟩
    go_wp2_with fail
    go_ret
    exact NewT.more ⟨A3, c3', rfl, ho3, hb3⟩ hb02 HY.out
end Go.Proofs.YtkgoajnnkimkaaaGreat
