/- Contracts of asked, firstEffects, effects, and of the reference's l13Gen, l13New, l13Effects. -/
import Derived.Test.YtkgoajnnkimkaaaGreatG1
import Derived.Test.YtkgoajnnkimkaaaGreatQ3
set_option linter.unusedSimpArgs false
set_option linter.unusedVariables false
namespace Go.Proofs.YtkgoajnnkimkaaaGreat
open Go.ChangeShapes Go.WideShapes Go.ChangeAt Go.RowKit

/-- A new table. -/
def NewEff (w : World) (es : List (Int × Int)) (e : Ending) (w' : World) : Prop := NewRow w 39 2 es.length (effCells es) e w'
theorem effCells_snoc (es : List (Int × Int)) (e : Int × Int) : effCells (es ++ [e]) = effCells es ++ [iv e.1, iv e.2] := by
  induction es with
  | nil => rfl
  | cons a r ih => simp [effCells, ih]
theorem effCells_set : ∀ (es : List (Int × Int)) (i : Nat) (h : i < es.length) (x : Int), (effCells es).set (i * 2 + 1) (iv x) = effCells (es.set i (es[i].1, x))
  | e :: r, 0, _, x => rfl
  | e :: r, i + 1, h, x => by
    have := effCells_set r i (by simpa using h) x
    have e1 : (i + 1) * 2 + 1 = (i * 2 + 1) + 1 + 1 := by omega
    rw [e1]
    simpa [effCells] using this
/-- The first procedures of the first table. -/
noncomputable def effP (k : Cd) (j : Nat) : List (Int × Int) := (List.range j).map fun p => (((keepN k p : Nat) : Int), ((63 : Nat) : Int))
theorem effP_len (k : Cd) (j : Nat) : (effP k j).length = j := by simp [effP]
theorem effP_snoc (k : Cd) (j : Nat) : effP k (j + 1) = effP k j ++ [(((keepN k j : Nat) : Int), ((63 : Nat) : Int))] := by simp [effP, List.range_succ]
theorem effP_all (k : Cd) : effP k k.procs.length = effL k (List.replicate k.procs.length 63) := by
  refine List.ext_getElem (by simp [effP, effL]) fun i h1 h2 => ?_
  have hi : i < k.procs.length := by simpa [effP] using h1
  rw [effL_get, gt_replicate hi]
  simp [effP]
section
variable (w : World) {ops : Array Oper} {rest : List Oper} {o : Oper} {a : Act} {Q : Exit → Act → World → Prop}
theorem append_eff {wr : World} (hgd : o.guard = none) (s x : Operand) (ho : o.op = .call { callee := .builtin .append, args := #[s, x], argTypes := #[30, 30] })
    {base : Nat} {v : Value} {n : Nat} {es : List (Int × Int)} {y z : Int} (hown : wr.ownsRow base 39 2 v n (effCells es)) (hs : a.eval s = v) (hx : a.eval x = .slice (some ⟨wr.heap.size, 0, none⟩) 1 1)
    (hn : n ≤ 1099511627775) (hbase : base ≤ wr.heap.size)
    (hK : ∀ A c w', w'.ownsRow base 39 2 (.slice A (n + 1) c) (n + 1) (effCells (es ++ [(y, z)])) → wr.grownBy w' v.ownBlock → ((Value.slice A (n + 1) c).ownBlock = v.ownBlock ∨ (Value.slice A (n + 1) c).ownBlock = some (wr.heap.size + 1)) →
      wpList Tryz.prog ops Q rest (a.put o.dst (.slice A (n + 1) c)) w') : wpList Tryz.prog ops Q (o :: rest) a (wr.alloc (.cells #[.int .i64 y, .int .i64 z] 39)) :=
  append_cells Tryz.underlying30 info_eff rfl (by omega) (by omega) hgd s x ho [.int .i64 y, .int .i64 z] hown hs hx rfl (by simp [Value.oneCell']) hn hbase
    fun A c w' h1 h2 h3 => hK A c w' (by rw [effCells_snoc]; exact h1) h2 h3
end
/-- A cell of a table of one's own. -/
theorem own_gen {W : World} {base gb n c : Nat} {k : Cd} {gs : List Nat} (h : W.ownsRow base 39 2 (.slice (some ⟨gb, 0, none⟩) n c) n (effCells (effL k gs))) (hn : n = k.procs.length) {p : Nat} (hp : p < k.procs.length) :
    W.cell? ⟨gb, p * 2 + 1, none⟩ = some (.int .i64 ((gt gs p : Nat) : Int)) := by
  have hl : p < (effL k gs).length := by rw [effL_len]; exact hp
  rw [h.cellAt (p * 2 + 1) (by omega), effCells_gen _ p hl, effL_get hl]
  rfl
theorem put_gen {W : World} {base gb n c : Nat} {k : Cd} {gs : List Nat} (h : W.ownsRow base 39 2 (.slice (some ⟨gb, 0, none⟩) n c) n (effCells (effL k gs))) {p : Nat} (hp : p < k.procs.length) (hl : gs.length = k.procs.length) (y : Nat) :
    (W.setCell ⟨gb, p * 2 + 1, none⟩ (.int .i64 (y : Int))).ownsRow base 39 2 (.slice (some ⟨gb, 0, none⟩) n c) n (effCells (effL k (gs.set p y))) := by
  obtain ⟨s1, _⟩ := h.stored (p * 2 + 1) (.int .i64 (y : Int))
  have hp2 : p < (effL k gs).length := by rw [effL_len]; exact hp
  have e := effCells_set (effL k gs) p hp2 (y : Int)
  rw [effL_get hp2] at e
  rw [effL_set hl hp, ← e]
  exact s1

set_option maxRecDepth 100000 in
set_option maxHeartbeats 4000000 in
theorem asked_any {B B' : Nat} (g : Nat) (v : CV) (k : Cd) (A : Option Addr) (c : Nat) (gs : List Nat) (p : Nat) (w : World) (hr : Right k) (hW : WAt w B g v k) (he : Rd w B' A (effCells (effL k gs))) (hlt : ∀ i, gt gs i < 64) (hp : p < k.procs.length) :
    Calls Tryz.prog 155 #[.pointer (some ⟨g, 0, none⟩), .slice A k.procs.length c, .int .i64 p] w fun e w' => e = .returned (.int .i64 ((asked k gs p : Nat) : Int)) ∧ Below w.heap.size w w' := by
  have hWf := hW.full
  have hkf := hWf.code
  have hef := he.full
  have hins := hr.ins
  have hpl := hr.procs
  have hfl := hr.lt p hp
  have HEN := Lib.hid (fun W (hb : Below w.heap.size w W) => (show Calls Tryz.prog 162 #[.agg #[.slice v.gA k.globals.length v.gc, .slice v.lA k.locks.length v.lc, .slice v.pA k.procs.length v.pc, .slice v.eA k.entry.length v.ec, .slice v.iA k.ins.length v.ic], .int .i64 (p : Int)] W fun e w' => e = .returned (.int .i64 ((fin k p : Nat) : Int)) ∧ Below W.heap.size W w' from by
    have h1 := endOfProc_any v k p W (hkf.below hb) (by omega) (by have := hr.entry; omega) (by omega)
    rw [hr.fin_eq p hp] at h1
    exact h1))
  have HFL := Lib.hid (fun W (hb : Below w.heap.size w W) => (show Calls Tryz.prog 91 #[.pointer (some ⟨g, 0, none⟩), .slice A k.procs.length c, .int .i64 p, .int .i64 0] W fun e w' => ∃ Af cf, e = .returned (.slice Af k.ins.length cf) ∧ Rd w' w'.heap.size Af (nv (flowN k (effL k gs) p 0)) ∧ Below W.heap.size W w' from by
    have h := flow_any g v k A c (effL k gs) p 0 W hr (hWf.below hb) (hef.below hb) (effL_ok hlt) (effL_len k gs) hp (by omega)
    rw [effL_len] at h
    refine h.mono ?_
    rintro e w' ⟨Af, cf, rfl, ho, hb'⟩
    rw [flowN_len hr hp] at ho ⊢
    exact ⟨Af, cf, rfl, own_rd ho, hb'⟩))
  have hfe : fin k p - 1 < k.ins.length := by omega
  have hwr : IntKind.i64.wrap ((fin k p - 1 : Nat) : Int) = ((fin k p - 1 : Nat) : Int) := (by
    generalize fin k p - 1 = q at hfe
    rw [IntKind.wrap_i64]
    omega)
  have y3 : (0 : Int) ≤ ((fin k p - 1 : Nat) : Int) := by omega
  have y4 : ((fin k p - 1 : Nat) : Int) < (k.ins.length : Int) := by omega
  have hgx := gt_some (xs := flowN k (effL k gs) p 0) (i := fin k p - 1) (by rw [flowN_len hr hp]; exact hfe)
  have HGX := Lib.hid (nv_get hgx)
  have HAS := Lib.hid (show asked k gs p = gt (flowN k (effL k gs) p 0) (fin k p - 1) from rfl)
  have hsub : ((fin k p : Nat) : Int) - 1 = ((fin k p - 1 : Nat) : Int) := by omega
  obtain ⟨c0, c1, c2, c3, c4⟩ := hWf.kat
  have hb0 := Below.refl w.heap.size w
  clear hr hW he hlt hWf hkf hef hgx
  go_enter Tryz.func155, Tryz.ntmps155
  go_wp2_with fail
  refine wp_region_held_drew (S := fun w' => Below w.heap.size w w') (by kernel_rfl) ((Below.refl _ _).drew) (fun hHeld => ?_)
  first | (refine hand_skip (i := 0) rfl (by kernel_rfl) (by kernel_rfl) (by kernel_rfl) (fun _ _ _ h => h) (by rfl) (by assumption) ?_) | (refine hand_run (i := 0) (v := ?_) rfl (by kernel_rfl) (by kernel_rfl) (by kernel_rfl) (fun _ _ _ h => h) (by rfl) ?_ (by assumption) ?_; rotate_left; (intro W hW; have f0 := cell_below hW c0; have f1 := cell_below hW c1; have f2 := cell_below hW c2; have f3 := cell_below hW c3; have f4 := cell_below hW c4; first | (go_simp; done) | (go_simp; with_reducible rfl)))
  (try simp only [Act.put, List.setIfInBounds_toArray, List.set_cons_zero, List.set_cons_succ])
  first | (refine hand_skip (i := 1) rfl (by kernel_rfl) (by kernel_rfl) (by kernel_rfl) (fun _ _ _ h => h) (by rfl) (by assumption) ?_) | (refine hand_run (i := 1) (v := ?_) rfl (by kernel_rfl) (by kernel_rfl) (by kernel_rfl) (fun _ _ _ h => h) (by rfl) ?_ (by assumption) ?_; rotate_left; (intro W hW; have f0 := cell_below hW c0; have f1 := cell_below hW c1; have f2 := cell_below hW c2; have f3 := cell_below hW c3; have f4 := cell_below hW c4; first | (go_simp; done) | (go_simp; with_reducible rfl)))
  (try simp only [Act.put, List.setIfInBounds_toArray, List.set_cons_zero, List.set_cons_succ])
  first | (refine hand_skip (i := 2) rfl (by kernel_rfl) (by kernel_rfl) (by kernel_rfl) (fun _ _ _ h => h) (by rfl) (by assumption) ?_) | (refine hand_run (i := 2) (v := ?_) rfl (by kernel_rfl) (by kernel_rfl) (by kernel_rfl) (fun _ _ _ h => h) (by rfl) ?_ (by assumption) ?_; rotate_left; (intro W hW; have f0 := cell_below hW c0; have f1 := cell_below hW c1; have f2 := cell_below hW c2; have f3 := cell_below hW c3; have f4 := cell_below hW c4; first | (go_simp; done) | (go_simp; with_reducible rfl)))
  (try simp only [Act.put, List.setIfInBounds_toArray, List.set_cons_zero, List.set_cons_succ])
  first | (refine hand_skip (i := 4) rfl (by kernel_rfl) (by kernel_rfl) (by kernel_rfl) (fun _ _ _ h => h) (by rfl) (by assumption) ?_) | (refine hand_run (i := 4) (v := ?_) rfl (by kernel_rfl) (by kernel_rfl) (by kernel_rfl) (fun _ _ _ h => h) (by rfl) ?_ (by assumption) ?_; rotate_left; (intro W hW; have f0 := cell_below hW c0; have f1 := cell_below hW c1; have f2 := cell_below hW c2; have f3 := cell_below hW c3; have f4 := cell_below hW c4; first | (go_simp; done) | (go_simp; with_reducible rfl)))
  (try simp only [Act.put, List.setIfInBounds_toArray, List.set_cons_zero, List.set_cons_succ])
  first | (refine hand_skip (i := 5) rfl (by kernel_rfl) (by kernel_rfl) (by kernel_rfl) (fun _ _ _ h => h) (by rfl) (by assumption) ?_) | (refine hand_run (i := 5) (v := ?_) rfl (by kernel_rfl) (by kernel_rfl) (by kernel_rfl) (fun _ _ _ h => h) (by rfl) ?_ (by assumption) ?_; rotate_left; (intro W hW; have f0 := cell_below hW c0; have f1 := cell_below hW c1; have f2 := cell_below hW c2; have f3 := cell_below hW c3; have f4 := cell_below hW c4; first | (go_simp; done) | (go_simp; with_reducible rfl)))
  (try simp only [Act.put, List.setIfInBounds_toArray, List.set_cons_zero, List.set_cons_succ])
  first | (refine hand_skip (i := 6) rfl (by kernel_rfl) (by kernel_rfl) (by kernel_rfl) (fun _ _ _ h => h) (by rfl) (by assumption) ?_) | (refine hand_run (i := 6) (v := ?_) rfl (by kernel_rfl) (by kernel_rfl) (by kernel_rfl) (fun _ _ _ h => h) (by rfl) ?_ (by assumption) ?_; rotate_left; (intro W hW; have f0 := cell_below hW c0; have f1 := cell_below hW c1; have f2 := cell_below hW c2; have f3 := cell_below hW c3; have f4 := cell_below hW c4; first | (go_simp; done) | (go_simp; with_reducible rfl)))
  (try simp only [Act.put, List.setIfInBounds_toArray, List.set_cons_zero, List.set_cons_succ])
  first | (refine hand_skip (i := 7) rfl (by kernel_rfl) (by kernel_rfl) (by kernel_rfl) (fun _ _ _ h => h) (by rfl) (by assumption) ?_) | (refine hand_run (i := 7) (v := ?_) rfl (by kernel_rfl) (by kernel_rfl) (by kernel_rfl) (fun _ _ _ h => h) (by rfl) ?_ (by assumption) ?_; rotate_left; (intro W hW; have f0 := cell_below hW c0; have f1 := cell_below hW c1; have f2 := cell_below hW c2; have f3 := cell_below hW c3; have f4 := cell_below hW c4; first | (go_simp; done) | (go_simp; with_reducible rfl)))
  (try simp only [Act.put, List.setIfInBounds_toArray, List.set_cons_zero, List.set_cons_succ])
  first | (refine hand_skip (i := 8) rfl (by kernel_rfl) (by kernel_rfl) (by kernel_rfl) (fun _ _ _ h => h) (by rfl) (by assumption) ?_) | (refine hand_run (i := 8) (v := ?_) rfl (by kernel_rfl) (by kernel_rfl) (by kernel_rfl) (fun _ _ _ h => h) (by rfl) ?_ (by assumption) ?_; rotate_left; (intro W hW; have f0 := cell_below hW c0; have f1 := cell_below hW c1; have f2 := cell_below hW c2; have f3 := cell_below hW c3; have f4 := cell_below hW c4; first | (go_simp; done) | (go_simp; with_reducible rfl)))
  (try simp only [Act.put, List.setIfInBounds_toArray, List.set_cons_zero, List.set_cons_succ])
  refine hand_one (i := 3) rfl (by kernel_rfl) (fun K hK => ?_)
  refine q_yes (by rfl) ?_
  go_simp
  refine (HFL.out _ (below_trans' hb0 hHeld)).mono ?_
  rintro e wf ⟨Af, cf, rfl, hrf, hbf⟩
  obtain ⟨adf, eaf, _, hcf⟩ := hrf _ _ HGX.out
  subst eaf
  refine hK.out _ _ (below_trans' hHeld hbf) (fun hHeld => ?_)
  clear hK K
  (try simp only [Act.put, List.setIfInBounds_toArray, List.set_cons_zero, List.set_cons_succ])
  refine hand_one (i := 9) rfl (by kernel_rfl) (fun K hK => ?_)
  refine q_yes (by rfl) ?_
  go_simp
  refine (HEN.out _ (below_trans' hb0 hHeld)).mono ?_
  rintro e we ⟨rfl, hbe⟩
  try have hcf := cell_below hbe hcf
  refine hK.out _ _ (below_trans' hHeld hbe) (fun hHeld => ?_)
  clear hK K
  (try simp only [Act.put, List.setIfInBounds_toArray, List.set_cons_zero, List.set_cons_succ])
  first | (refine hand_skip (i := 10) rfl (by kernel_rfl) (by kernel_rfl) (by kernel_rfl) (fun _ _ _ h => h) (by rfl) (by assumption) ?_) | (refine hand_run (i := 10) (v := ?_) rfl (by kernel_rfl) (by kernel_rfl) (by kernel_rfl) (fun _ _ _ h => h) (by rfl) ?_ (by assumption) ?_; rotate_left; (intro W hW; have f0 := cell_below hW c0; have f1 := cell_below hW c1; have f2 := cell_below hW c2; have f3 := cell_below hW c3; have f4 := cell_below hW c4; first | (go_simp; done) | (go_simp; with_reducible rfl)))
  (try simp only [Act.put, List.setIfInBounds_toArray, List.set_cons_zero, List.set_cons_succ])
  first | (refine hand_skip (i := 11) rfl (by kernel_rfl) (by kernel_rfl) (by kernel_rfl) (fun _ _ _ h => h) (by rfl) (by assumption) ?_) | (refine hand_run (i := 11) (v := ?_) rfl (by kernel_rfl) (by kernel_rfl) (by kernel_rfl) (fun _ _ _ h => h) (by rfl) ?_ (by assumption) ?_; rotate_left; (intro W hW; have f0 := cell_below hW c0; have f1 := cell_below hW c1; have f2 := cell_below hW c2; have f3 := cell_below hW c3; have f4 := cell_below hW c4; first | (go_simp; done) | (go_simp; with_reducible rfl)))
  (try simp only [Act.put, List.setIfInBounds_toArray, List.set_cons_zero, List.set_cons_succ])
  refine hand_one (i := 12) rfl (by kernel_rfl) (fun K hK => ?_)
  refine q_yes (by rfl) ?_
  go_simp
  skip
  refine hK.out _ _ (hHeld) (fun hHeld => ?_)
  clear hK K
  (try simp only [Act.put, List.setIfInBounds_toArray, List.set_cons_zero, List.set_cons_succ])
  first | (refine hand_skip (i := 13) rfl (by kernel_rfl) (by kernel_rfl) (by kernel_rfl) (fun _ _ _ h => h) (by rfl) (by assumption) ?_) | (refine hand_run (i := 13) (v := ?_) rfl (by kernel_rfl) (by kernel_rfl) (by kernel_rfl) (fun _ _ _ h => h) (by rfl) ?_ (by assumption) ?_; rotate_left; (intro W hW; have f0 := cell_below hW c0; have f1 := cell_below hW c1; have f2 := cell_below hW c2; have f3 := cell_below hW c3; have f4 := cell_below hW c4; first | (go_simp; done) | (go_simp; with_reducible rfl)))
  (try simp only [Act.put, List.setIfInBounds_toArray, List.set_cons_zero, List.set_cons_succ])
  refine wpAnyH_done (by kernel_rfl) ?_ _
  go_wp2_with fail
  go_ret
  exact ⟨ret_int (by rw [HAS.out]), hHeld⟩

set_option maxRecDepth 100000 in
set_option maxHeartbeats 4000000 in
theorem l13Gen_any {B B' L : Nat} (v : CV) (k : Cd) (A : Option Addr) (c : Nat) (gs : List Nat) (p : Nat) (w : World) (hr : Right k) (hk : CodeAt w B v k) (hcb : CdB L k) (hL : L ≤ 1048576) (he : Rd w B' A (effCells (effL k gs))) (hlt : ∀ i, gt gs i < 64) (hp : p < k.procs.length) :
    Calls Tryz.prog 159 #[.agg #[.slice v.gA k.globals.length v.gc, .slice v.lA k.locks.length v.lc, .slice v.pA k.procs.length v.pc, .slice v.eA k.entry.length v.ec, .slice v.iA k.ins.length v.ic], .slice A k.procs.length c, .int .i64 p] w fun e w' => e = .returned (.int .i64 ((asked k gs p : Nat) : Int)) ∧ Below w.heap.size w w' := by
  have hkf := hk.full
  have hef := he.full
  have hbx := codeBox w v k
  have hins := hr.ins
  have hpl := hr.procs
  have hfl := hr.lt p hp
  have HEN := Lib.hid (fun W (hb : Below w.heap.size w W) => l08End_right v k p W hr (hkf.below hb) hcb hL hp)
  have HFL := Lib.hid (fun W (hb : Below w.heap.size w W) => (show Calls Tryz.prog 176 #[.agg #[.slice v.gA k.globals.length v.gc, .slice v.lA k.locks.length v.lc, .slice v.pA k.procs.length v.pc, .slice v.eA k.entry.length v.ec, .slice v.iA k.ins.length v.ic], .slice A k.procs.length c, .int .i64 p, .int .i64 0] W fun e w' => ∃ Af cf, e = .returned (.slice Af k.ins.length cf) ∧ Rd w' w'.heap.size Af (nv (flowN k (effL k gs) p 0)) ∧ Below W.heap.size W w' from by
    have h := l13From_any v k A c (effL k gs) p 0 W hr (hkf.below hb) (hef.below hb) (effL_ok hlt) (effL_len k gs) hp (by omega)
    rw [effL_len] at h
    refine h.mono ?_
    rintro e w' ⟨Af, cf, rfl, ho, hb'⟩
    rw [flowN_len hr hp] at ho ⊢
    exact ⟨Af, cf, rfl, own_rd ho, hb'⟩))
  have hfe : fin k p - 1 < k.ins.length := by omega
  have hwr : IntKind.i64.wrap ((fin k p - 1 : Nat) : Int) = ((fin k p - 1 : Nat) : Int) := (by
    generalize fin k p - 1 = q at hfe
    rw [IntKind.wrap_i64]
    omega)
  have y3 : (0 : Int) ≤ ((fin k p - 1 : Nat) : Int) := by omega
  have y4 : ((fin k p - 1 : Nat) : Int) < (k.ins.length : Int) := by omega
  have hgx := gt_some (xs := flowN k (effL k gs) p 0) (i := fin k p - 1) (by rw [flowN_len hr hp]; exact hfe)
  have HGX := Lib.hid (nv_get hgx)
  have HAS := Lib.hid (show asked k gs p = gt (flowN k (effL k gs) p 0) (fin k p - 1) from rfl)
  clear hr hk he hlt hkf hef hgx hcb
  go_enter Tryz.func159, Tryz.ntmps159
  go_wp2_with fail
  generalize w.alloc (.cells #[.slice v.gA k.globals.length v.gc, .slice v.lA k.locks.length v.lc, .slice v.pA k.procs.length v.pc, .slice v.eA k.entry.length v.ec, .slice v.iA k.ins.length v.ic] 28) = W at hbx ⊢
  have hb0 := hbx.1
  obtain ⟨q1, q2, c0, c1, c2, c3, c4⟩ := id hbx
  refine wp_region_held_drew (S := fun w' => Below W.heap.size W w') (by kernel_rfl) ((Below.refl _ _).drew) (fun hHeld => ?_)
  first | (refine hand_skip (i := 0) rfl (by kernel_rfl) (by kernel_rfl) (by kernel_rfl) (fun _ _ _ h => h) (by rfl) (by assumption) ?_) | (refine hand_run (i := 0) (v := ?_) rfl (by kernel_rfl) (by kernel_rfl) (by kernel_rfl) (fun _ _ _ h => h) (by rfl) ?_ (by assumption) ?_; rotate_left; (intro W hW; have f0 := cell_below hW c0; have f1 := cell_below hW c1; have f2 := cell_below hW c2; have f3 := cell_below hW c3; have f4 := cell_below hW c4; first | (go_simp; done) | (go_simp; with_reducible rfl)))
  (try simp only [Act.put, List.setIfInBounds_toArray, List.set_cons_zero, List.set_cons_succ])
  first | (refine hand_skip (i := 1) rfl (by kernel_rfl) (by kernel_rfl) (by kernel_rfl) (fun _ _ _ h => h) (by rfl) (by assumption) ?_) | (refine hand_run (i := 1) (v := ?_) rfl (by kernel_rfl) (by kernel_rfl) (by kernel_rfl) (fun _ _ _ h => h) (by rfl) ?_ (by assumption) ?_; rotate_left; (intro W hW; have f0 := cell_below hW c0; have f1 := cell_below hW c1; have f2 := cell_below hW c2; have f3 := cell_below hW c3; have f4 := cell_below hW c4; first | (go_simp; done) | (go_simp; with_reducible rfl)))
  (try simp only [Act.put, List.setIfInBounds_toArray, List.set_cons_zero, List.set_cons_succ])
  first | (refine hand_skip (i := 2) rfl (by kernel_rfl) (by kernel_rfl) (by kernel_rfl) (fun _ _ _ h => h) (by rfl) (by assumption) ?_) | (refine hand_run (i := 2) (v := ?_) rfl (by kernel_rfl) (by kernel_rfl) (by kernel_rfl) (fun _ _ _ h => h) (by rfl) ?_ (by assumption) ?_; rotate_left; (intro W hW; have f0 := cell_below hW c0; have f1 := cell_below hW c1; have f2 := cell_below hW c2; have f3 := cell_below hW c3; have f4 := cell_below hW c4; first | (go_simp; done) | (go_simp; with_reducible rfl)))
  (try simp only [Act.put, List.setIfInBounds_toArray, List.set_cons_zero, List.set_cons_succ])
  first | (refine hand_skip (i := 4) rfl (by kernel_rfl) (by kernel_rfl) (by kernel_rfl) (fun _ _ _ h => h) (by rfl) (by assumption) ?_) | (refine hand_run (i := 4) (v := ?_) rfl (by kernel_rfl) (by kernel_rfl) (by kernel_rfl) (fun _ _ _ h => h) (by rfl) ?_ (by assumption) ?_; rotate_left; (intro W hW; have f0 := cell_below hW c0; have f1 := cell_below hW c1; have f2 := cell_below hW c2; have f3 := cell_below hW c3; have f4 := cell_below hW c4; first | (go_simp; done) | (go_simp; with_reducible rfl)))
  (try simp only [Act.put, List.setIfInBounds_toArray, List.set_cons_zero, List.set_cons_succ])
  first | (refine hand_skip (i := 5) rfl (by kernel_rfl) (by kernel_rfl) (by kernel_rfl) (fun _ _ _ h => h) (by rfl) (by assumption) ?_) | (refine hand_run (i := 5) (v := ?_) rfl (by kernel_rfl) (by kernel_rfl) (by kernel_rfl) (fun _ _ _ h => h) (by rfl) ?_ (by assumption) ?_; rotate_left; (intro W hW; have f0 := cell_below hW c0; have f1 := cell_below hW c1; have f2 := cell_below hW c2; have f3 := cell_below hW c3; have f4 := cell_below hW c4; first | (go_simp; done) | (go_simp; with_reducible rfl)))
  (try simp only [Act.put, List.setIfInBounds_toArray, List.set_cons_zero, List.set_cons_succ])
  refine hand_one (i := 3) rfl (by kernel_rfl) (fun K hK => ?_)
  refine q_yes (by rfl) ?_
  go_simp
  refine (HFL.out _ (below_trans' hb0 hHeld)).mono ?_
  rintro e wf ⟨Af, cf, rfl, hrf, hbf⟩
  obtain ⟨adf, eaf, _, hcf⟩ := hrf _ _ HGX.out
  subst eaf
  refine hK.out _ _ (below_trans' hHeld hbf) (fun hHeld => ?_)
  clear hK K
  (try simp only [Act.put, List.setIfInBounds_toArray, List.set_cons_zero, List.set_cons_succ])
  refine hand_one (i := 6) rfl (by kernel_rfl) (fun K hK => ?_)
  refine q_yes (by rfl) ?_
  go_simp
  refine (HEN.out _ (below_trans' hb0 hHeld)).mono ?_
  rintro e we ⟨rfl, hbe⟩
  try have hcf := cell_below hbe hcf
  refine hK.out _ _ (below_trans' hHeld hbe) (fun hHeld => ?_)
  clear hK K
  (try simp only [Act.put, List.setIfInBounds_toArray, List.set_cons_zero, List.set_cons_succ])
  first | (refine hand_skip (i := 7) rfl (by kernel_rfl) (by kernel_rfl) (by kernel_rfl) (fun _ _ _ h => h) (by rfl) (by assumption) ?_) | (refine hand_run (i := 7) (v := ?_) rfl (by kernel_rfl) (by kernel_rfl) (by kernel_rfl) (fun _ _ _ h => h) (by rfl) ?_ (by assumption) ?_; rotate_left; (intro W hW; have f0 := cell_below hW c0; have f1 := cell_below hW c1; have f2 := cell_below hW c2; have f3 := cell_below hW c3; have f4 := cell_below hW c4; first | (go_simp; done) | (go_simp; with_reducible rfl)))
  (try simp only [Act.put, List.setIfInBounds_toArray, List.set_cons_zero, List.set_cons_succ])
  refine hand_one (i := 8) rfl (by kernel_rfl) (fun K hK => ?_)
  refine q_yes (by rfl) ?_
  go_simp
  skip
  refine hK.out _ _ (hHeld) (fun hHeld => ?_)
  clear hK K
  (try simp only [Act.put, List.setIfInBounds_toArray, List.set_cons_zero, List.set_cons_succ])
  first | (refine hand_skip (i := 9) rfl (by kernel_rfl) (by kernel_rfl) (by kernel_rfl) (fun _ _ _ h => h) (by rfl) (by assumption) ?_) | (refine hand_run (i := 9) (v := ?_) rfl (by kernel_rfl) (by kernel_rfl) (by kernel_rfl) (fun _ _ _ h => h) (by rfl) ?_ (by assumption) ?_; rotate_left; (intro W hW; have f0 := cell_below hW c0; have f1 := cell_below hW c1; have f2 := cell_below hW c2; have f3 := cell_below hW c3; have f4 := cell_below hW c4; first | (go_simp; done) | (go_simp; with_reducible rfl)))
  (try simp only [Act.put, List.setIfInBounds_toArray, List.set_cons_zero, List.set_cons_succ])
  refine wpAnyH_done (by kernel_rfl) ?_ _
  go_wp2_with fail
  go_ret
  exact ⟨ret_int (by rw [HAS.out]), below_trans' hb0 hHeld⟩

set_option maxHeartbeats 4000000 in
theorem firstEffects_any {B : Nat} (g : Nat) (v : CV) (k : Cd) (w : World) (hr : Right k) (hW : WAt w B g v k) :
    Calls Tryz.prog 154 #[.pointer (some ⟨g, 0, none⟩)] w (NewEff w (effL k (List.replicate k.procs.length 63))) := by
  have hWf := hW.full
  have hpl := hr.procs
  have hkat := hWf.kat
  have HKP := Lib.hid (fun p (hp : p < k.procs.length) W (hb : Below w.heap.size w W) => keepIn_any g v k p W hr (hWf.below hb) hp)
  have HPA := Lib.hid (effP_all k)
  have HKT := Lib.hid (fun W (hb : Below w.heap.size w W) => hWf.kat.to hb)
  obtain ⟨c0, c1, c2, c3, c4⟩ := id hkat
  clear hr hW hWf hkat
  go_enter Tryz.func154, Tryz.ntmps154
  go_wp2_with fail
  have hb00 := Below.refl w.heap.size w
  go_loopg [3, 11] k.procs.length (fun l out i wr => ∃ j : Nat, j ≤ k.procs.length ∧ l = k.procs.length - j ∧ i = .int .i64 j ∧ wr.ownsRow w.heap.size 39 2 out j (effCells (effP k j)) ∧ Below w.heap.size w wr)
  case atStart => exact ⟨0, by omega, by omega, rfl, World.ownsRow_nil _ _ _ _, hb00⟩
  case round =>
    obtain ⟨j, hj, rfl, rfl, ho, hb⟩ := hrel
    obtain ⟨Ao, co, rfl⟩ := own_form ho
    have hsz := hb.size
    
    by_cases hlt : j < k.procs.length
    · have HS := Lib.hid (effP_snoc k j)
      have z1 : (0 : Int) ≤ (j : Int) := by omega
      have z2 : (j : Int) < (k.procs.length : Int) := by omega
      go_wp2_with fail
      refine (HKP.out j hlt _ hb).mono ?_
      rintro e w2 ⟨rfl, hb2⟩
      have ho2 := own_below ho hb2
      have hb02 := below_trans' hb hb2
      have hsz2 := hb02.size
      
      
      go_wp2_with (at_builtin; refine append_eff rfl _ _ rfl (y := ((keepN k j : Nat) : Int)) (z := ((63 : Nat) : Int)) ho2 rfl rfl (by omega) hsz2 ?_; intro A' c' w3 ho3 hg3 _)
      go_roundg (k.procs.length - (j + 1))
      case measure => omega
      case rel => exact ⟨j + 1, by omega, rfl, by go_num, by rw [HS.out]; exact ho3, below_append hb02 ho2 hg3 hsz2 (Nat.le_refl _)⟩
    · obtain rfl : j = k.procs.length := by omega
      have HFI := Lib.hid (show NewEff w (effL k (List.replicate k.procs.length 63)) (.returned (.slice Ao k.procs.length co)) wr from by
        rw [← HPA.out]
        exact ⟨Ao, co, by rw [effP_len], by rw [effP_len]; exact ho, hb⟩)
      go_wp2_with fail
      go_ret
      exact HFI.out

theorem preEff (w : World) (v : CV) (k : Cd) : CodeBox w v k ((w.alloc (.cells #[.slice v.gA k.globals.length v.gc, .slice v.lA k.locks.length v.lc, .slice v.pA k.procs.length v.pc, .slice v.eA k.entry.length v.ec, .slice v.iA k.ins.length v.ic] 28)).alloc (.cells #[] 39)) ∧ ((w.alloc (.cells #[.slice v.gA k.globals.length v.gc, .slice v.lA k.locks.length v.lc, .slice v.pA k.procs.length v.pc, .slice v.eA k.entry.length v.ec, .slice v.iA k.ins.length v.ic] 28)).alloc (.cells #[] 39)).ownsRow (w.heap.size + 1) 39 2 (.slice (some ⟨w.heap.size + 1, 0, none⟩) 0 0) 0 (effCells (effP k 0)) := by
  refine ⟨(codeBox w v k).to (below_alloc0 _ _), ?_⟩
  have := World.ownsRow_lit (base := w.heap.size + 1) (e := 39) (size := 2) (w.alloc (.cells #[.slice v.gA k.globals.length v.gc, .slice v.lA k.locks.length v.lc, .slice v.pA k.procs.length v.pc, .slice v.eA k.entry.length v.ec, .slice v.iA k.ins.length v.ic] 28)) #[] 0 (by simp) (by simp) rfl
  simpa [effCells, effP] using this

set_option maxHeartbeats 4000000 in
theorem l13New_any {B : Nat} (v : CV) (k : Cd) (w : World) (hr : Right k) (hk : CodeAt w B v k) :
    Calls Tryz.prog 158 #[.agg #[.slice v.gA k.globals.length v.gc, .slice v.lA k.locks.length v.lc, .slice v.pA k.procs.length v.pc, .slice v.eA k.entry.length v.ec, .slice v.iA k.ins.length v.ic]] w (NewEff w (effL k (List.replicate k.procs.length 63))) := by
  have hkf := hk.full
  have hpl := hr.procs
  obtain ⟨hbx, hpo⟩ := preEff w v k
  have HKP := Lib.hid (fun p (hp : p < k.procs.length) W (hb : Below w.heap.size w W) => l13Keep_any v k p W hr (hkf.below hb) hp)
  have HPA := Lib.hid (effP_all k)
  
  
  clear hr hk hkf
  go_enter Tryz.func158, Tryz.ntmps158
  go_wp2_with fail
  generalize (w.alloc (.cells #[.slice v.gA k.globals.length v.gc, .slice v.lA k.locks.length v.lc, .slice v.pA k.procs.length v.pc, .slice v.eA k.entry.length v.ec, .slice v.iA k.ins.length v.ic] 28)).alloc (.cells #[] 39) = W at hbx hpo ⊢
  go_loopg [3, 4] k.procs.length (fun l out i wr => ∃ j : Nat, j ≤ k.procs.length ∧ l = k.procs.length - j ∧ i = .int .i64 j ∧ wr.ownsRow (w.heap.size + 1) 39 2 out j (effCells (effP k j)) ∧ CodeBox w v k wr)
  case atStart => exact ⟨0, by omega, by omega, rfl, hpo, hbx⟩
  case round =>
    clear hpo hbx
    obtain ⟨j, hj, rfl, rfl, ho, hbxr⟩ := hrel
    have hb := hbxr.1
    obtain ⟨Ao, co, rfl⟩ := own_form ho
    have hsz := hb.size
    obtain ⟨q1, q2, c0, c1, c2, c3, c4⟩ := id hbxr
    by_cases hlt : j < k.procs.length
    · have HS := Lib.hid (effP_snoc k j)
      have z1 : (0 : Int) ≤ (j : Int) := by omega
      have z2 : (j : Int) < (k.procs.length : Int) := by omega
      go_wp2_with fail
      refine (HKP.out j hlt _ hbxr.1).mono ?_
      rintro e w2 ⟨rfl, hb2⟩
      have ho2 := own_below ho hb2
      have hb02 := below_trans' hb hb2
      have hsz2 : w.heap.size + 1 ≤ w2.heap.size := (hbxr.to hb2).2.1
      have hbx2 := hbxr.to hb2
      clear q1 q2 c0 c1 c2 c3 c4
      go_wp2_with (at_builtin; refine append_eff rfl _ _ rfl (y := ((keepN k j : Nat) : Int)) (z := ((63 : Nat) : Int)) ho2 rfl rfl (by omega) hsz2 ?_; intro A' c' w3 ho3 hg3 _)
      go_roundg (k.procs.length - (j + 1))
      case measure => omega
      case rel => exact ⟨j + 1, by omega, rfl, by go_num, by rw [HS.out]; exact ho3, hbx2.app ho2 hg3 (by omega)⟩
    · obtain rfl : j = k.procs.length := by omega
      have HFI := Lib.hid (show NewEff w (effL k (List.replicate k.procs.length 63)) (.returned (.slice Ao k.procs.length co)) wr from by
        rw [← HPA.out]
        exact ⟨Ao, co, by rw [effP_len], by rw [effP_len]; exact own_mono ho (by omega), hb⟩)
      go_wp2_with fail
      go_ret
      exact HFI.out

set_option maxHeartbeats 4000000 in
theorem effects_any {B : Nat} (g : Nat) (v : CV) (k : Cd) (w : World) (hr : Right k) (hW : WAt w B g v k) :
    Calls Tryz.prog 83 #[.pointer (some ⟨g, 0, none⟩)] w fun e w' => NewEff w (effN k) e w' ∧ ∀ i, gt (genN k) i < 64 := by
  have hWf := hW.full
  have hpl := hr.procs
  
  have h0p := List.length_pos_of_mem hr.main
  have HFE := Lib.hid (fun W (hb : Below w.heap.size w W) => firstEffects_any g v k W hr (hWf.below hb))
  have HAS := Lib.hid (fun A c gs B' p (hp : p < k.procs.length) W (hb : Below w.heap.size w W) (he : Rd W B' A (effCells (effL k gs))) (hlt : ∀ i, gt gs i < 64) => asked_any g v k A c gs p W hr (hWf.below hb) he hlt hp)
  have HKT := Lib.hid (fun W (hb : Below w.heap.size w W) => hWf.kat.to hb)
  have HR := Lib.hid hr
  have HE0 := Lib.hid (effS0 hr)
  obtain ⟨c0, c1, c2, c3, c4⟩ := hWf.kat
  clear hr hW hWf
  go_enter Tryz.func83, Tryz.ntmps83
  go_wp2_with fail
  refine (HFE.out _ (Below.refl _ _)).mono ?_
  rintro e w1 ⟨Ae, ce, rfl, hoe, hb1⟩
  rw [effL_len] at hoe ⊢
  
  have hb01 := hb1
  obtain ⟨gb, rfl⟩ : ∃ gb, Ae = some ⟨gb, 0, none⟩ := by
    rcases hoe.2 with ⟨e, h0⟩ | ⟨g, cap, cur, e, _⟩
    · omega
    · injection e with e; exact ⟨g, e⟩
  have hgb := (hoe.lt gb rfl).1
  
  have hoe := own_mono hoe (b := w.heap.size) (Nat.le_refl _)
  clear hb1 c0 c1 c2 c3 c4
  go_wp2_with fail
  go_loopg [4] (2 * (List.replicate k.procs.length 63).sum + 1) (fun l ag wr => ∃ (gs : List Nat) (new : Bool), ag = .bool new ∧ l = 2 * gs.sum + (if new then 1 else 0) ∧ wr.ownsRow w.heap.size 39 2 (.slice (some ⟨gb, 0, none⟩) k.procs.length ce) k.procs.length (effCells (effL k gs)) ∧ EffS k gs ∧ (new = false → ∀ p, p < k.procs.length → asked k gs p = gt gs p) ∧ Below w.heap.size w wr)
  case atStart => exact ⟨_, true, rfl, rfl, hoe, HE0.out, by simp, hb01⟩
  case round =>
    clear hoe hb01
    obtain ⟨gs, new, rfl, rfl, ho, hS, hfx, hb⟩ := hrel
    have HFX := Lib.hid hfx
    have HS := Lib.hid hS
    clear hfx hS
    cases new
    · have hfin := HS.out.stop (HFX.out rfl)
      have hln := genN_lt hfin HS.out
      have HFI := Lib.hid (show NewEff w (effN k) (.returned (.slice (some ⟨gb, 0, none⟩) k.procs.length ce)) wr from by
        unfold effN
        rw [← hfin]
        exact ⟨some ⟨gb, 0, none⟩, ce, by rw [effL_len], by rw [effL_len]; exact ho, hb⟩)
      have HLN := Lib.hid hln
      clear hfin hln
      go_wp2_with fail
      go_ret
      exact ⟨HFI.out, HLN.out⟩
    · go_wp2_with fail
      clear HFX
      obtain ⟨wo, rfl⟩ : ∃ wo : World, wo = wr := ⟨_, rfl⟩
      go_loopg [4, 12] k.procs.length (fun l ag i wr => ∃ (j : Nat) (hs : List Nat) (nw : Bool), j ≤ k.procs.length ∧ l = k.procs.length - j ∧ i = .int .i64 j ∧ ag = .bool nw ∧ wr.ownsRow w.heap.size 39 2 (.slice (some ⟨gb, 0, none⟩) k.procs.length ce) k.procs.length (effCells (effL k hs)) ∧ EffS k hs ∧ EfR k gs j nw hs ∧ Below w.heap.size w wr)
      case atStart => exact ⟨0, gs, false, by omega, by omega, rfl, rfl, ho, HS.out, EfR.refl _ _, hb⟩
      case round =>
        clear ho HS hb
        obtain ⟨j, hs, nw, hj, rfl, rfl, rfl, ho, hS, hP, hb⟩ := hrel
        have HS := Lib.hid hS
        have HP := Lib.hid hP
        clear hS hP
        
        obtain ⟨c0, c1, c2, c3, c4⟩ := HKT.out _ hb
        by_cases hlt : j < k.procs.length
        · have HAK := Lib.hid (HAS.out (some ⟨gb, 0, none⟩) ce hs _ j hlt wr hb (own_rd ho) HS.out.le)
          have z1 : (0 : Int) ≤ (j : Int) := by omega
          have z2 : (j : Int) < (k.procs.length : Int) := by omega
          have HLEN := Lib.hid HS.out.len
          by_cases he : asked k hs j = gt hs j
          · have HP2 := Lib.hid (HP.out.same he)
            have hne : (((asked k hs j : Nat) : Int) != ((gt hs j : Nat) : Int)) = false := by rw [he]; simp
            clear he
            generalize asked k hs j = ak at *
            go_wp2_with fail
            refine HAK.out.mono ?_
            rintro e w2 ⟨rfl, hb2⟩
            have ho2 := own_below ho hb2
            have cg := own_gen ho2 rfl hlt
            have hb02 := below_trans' hb hb2
            
            go_wp2_with fail
            go_roundg (k.procs.length - (j + 1))
            case measure => omega
            case rel => exact ⟨j + 1, hs, nw, by omega, rfl, by go_num, rfl, ho2, HS.out, HP2.out, hb02⟩
          · have HP2 := Lib.hid (HP.out.less HS.out hlt he)
            have HS2 := Lib.hid (HS.out.step HR.out hlt)
            have hne : (((asked k hs j : Nat) : Int) != ((gt hs j : Nat) : Int)) = true := by
              simp only [bne_iff_ne, ne_eq]
              omega
            clear he
            generalize asked k hs j = ak at *
            go_wp2_with fail
            refine HAK.out.mono ?_
            rintro e w2 ⟨rfl, hb2⟩
            have ho2 := own_below ho hb2
            have cg := own_gen ho2 rfl hlt
            have fz := ho2.frozenAt (j * 2 + 1)
            have ho3 := put_gen ho2 hlt HLEN.out ak
            have hb02 := below_trans' hb hb2
            
            have hb03 := hb02.grown (grown_set w2 ⟨gb, j * 2 + 1, none⟩ (.int .i64 (ak : Int))) hb02.size (fun q hq => by cases hq; exact hgb)
            
            go_wp2_with fail
            go_roundg (k.procs.length - (j + 1))
            case measure => omega
            case rel => exact ⟨j + 1, hs.set j ak, true, by omega, rfl, by go_num, rfl, ho3, HS2.out, HP2.out, hb03⟩
        · obtain rfl : j = k.procs.length := by omega
          go_wp2_with fail
          go_roundg (2 * hs.sum + (if nw then 1 else 0))
          case measure =>
            cases nw
            · rw [(HP.out.no rfl).1]; simp
            · have := HP.out.yes rfl; simp; omega
          case rel => exact ⟨hs, nw, rfl, rfl, ho, HS.out, fun hf => by rw [(HP.out.no hf).1]; exact (HP.out.no hf).2, hb⟩

set_option maxHeartbeats 4000000 in
theorem l13Effects_any {B L : Nat} (v : CV) (k : Cd) (w : World) (hr : Right k) (hk : CodeAt w B v k) (hcb : CdB L k) (hL : L ≤ 1048576) :
    Calls Tryz.prog 85 #[.agg #[.slice v.gA k.globals.length v.gc, .slice v.lA k.locks.length v.lc, .slice v.pA k.procs.length v.pc, .slice v.eA k.entry.length v.ec, .slice v.iA k.ins.length v.ic]] w fun e w' => NewEff w (effN k) e w' ∧ ∀ i, gt (genN k) i < 64 := by
  have hkf := hk.full
  have hpl := hr.procs
  have hbx := codeBox w v k
  have h0p := List.length_pos_of_mem hr.main
  have HFE := Lib.hid (fun W (hb : Below w.heap.size w W) => l13New_any v k W hr (hkf.below hb))
  have HAS := Lib.hid (fun A c gs B' p (hp : p < k.procs.length) W (hb : Below w.heap.size w W) (he : Rd W B' A (effCells (effL k gs))) (hlt : ∀ i, gt gs i < 64) => l13Gen_any v k A c gs p W hr (hkf.below hb) hcb hL he hlt hp)
  
  have HR := Lib.hid hr
  have HE0 := Lib.hid (effS0 hr)
  
  clear hr hk hkf hcb
  go_enter Tryz.func85, Tryz.ntmps85
  go_wp2_with fail
  generalize w.alloc (.cells #[.slice v.gA k.globals.length v.gc, .slice v.lA k.locks.length v.lc, .slice v.pA k.procs.length v.pc, .slice v.eA k.entry.length v.ec, .slice v.iA k.ins.length v.ic] 28) = W at hbx ⊢
  refine (HFE.out _ hbx.1).mono ?_
  rintro e w1 ⟨Ae, ce, rfl, hoe, hb1⟩
  rw [effL_len] at hoe ⊢
  have hbx1 := hbx.to hb1
  have hb01 := hbx1.1
  obtain ⟨gb, rfl⟩ : ∃ gb, Ae = some ⟨gb, 0, none⟩ := by
    rcases hoe.2 with ⟨e, h0⟩ | ⟨g, cap, cur, e, _⟩
    · omega
    · injection e with e; exact ⟨g, e⟩
  have hgb := (hoe.lt gb rfl).1
  have hwW := hbx.2.1
  have hoe := own_mono hoe (b := w.heap.size) (by omega)
  clear hb1 hbx
  go_wp2_with fail
  go_loopg [4] (2 * (List.replicate k.procs.length 63).sum + 1) (fun l ag wr => ∃ (gs : List Nat) (new : Bool), ag = .bool new ∧ l = 2 * gs.sum + (if new then 1 else 0) ∧ wr.ownsRow w.heap.size 39 2 (.slice (some ⟨gb, 0, none⟩) k.procs.length ce) k.procs.length (effCells (effL k gs)) ∧ EffS k gs ∧ (new = false → ∀ p, p < k.procs.length → asked k gs p = gt gs p) ∧ CodeBox w v k wr)
  case atStart => exact ⟨_, true, rfl, rfl, hoe, HE0.out, by simp, hbx1⟩
  case round =>
    clear hoe hbx1 hb01
    obtain ⟨gs, new, rfl, rfl, ho, hS, hfx, hbxr⟩ := hrel
    have HFX := Lib.hid hfx
    have HS := Lib.hid hS
    clear hfx hS
    cases new
    · have hfin := HS.out.stop (HFX.out rfl)
      have hln := genN_lt hfin HS.out
      have HFI := Lib.hid (show NewEff w (effN k) (.returned (.slice (some ⟨gb, 0, none⟩) k.procs.length ce)) wr from by
        unfold effN
        rw [← hfin]
        exact ⟨some ⟨gb, 0, none⟩, ce, by rw [effL_len], by rw [effL_len]; exact ho, hbxr.1⟩)
      have HLN := Lib.hid hln
      clear hfin hln
      go_wp2_with fail
      go_ret
      exact ⟨HFI.out, HLN.out⟩
    · go_wp2_with fail
      clear HFX
      obtain ⟨wo, rfl⟩ : ∃ wo : World, wo = wr := ⟨_, rfl⟩
      go_loopg [4, 5] k.procs.length (fun l ag i wr => ∃ (j : Nat) (hs : List Nat) (nw : Bool), j ≤ k.procs.length ∧ l = k.procs.length - j ∧ i = .int .i64 j ∧ ag = .bool nw ∧ wr.ownsRow w.heap.size 39 2 (.slice (some ⟨gb, 0, none⟩) k.procs.length ce) k.procs.length (effCells (effL k hs)) ∧ EffS k hs ∧ EfR k gs j nw hs ∧ CodeBox w v k wr)
      case atStart => exact ⟨0, gs, false, by omega, by omega, rfl, rfl, ho, HS.out, EfR.refl _ _, hbxr⟩
      case round =>
        clear ho HS hbxr
        obtain ⟨j, hs, nw, hj, rfl, rfl, rfl, ho, hS, hP, hbxr⟩ := hrel
        have HS := Lib.hid hS
        have HP := Lib.hid hP
        clear hS hP
        have hb := hbxr.1
        obtain ⟨q1, q2, c0, c1, c2, c3, c4⟩ := id hbxr
        by_cases hlt : j < k.procs.length
        · have HAK := Lib.hid (HAS.out (some ⟨gb, 0, none⟩) ce hs _ j hlt wr hb (own_rd ho) HS.out.le)
          have z1 : (0 : Int) ≤ (j : Int) := by omega
          have z2 : (j : Int) < (k.procs.length : Int) := by omega
          have HLEN := Lib.hid HS.out.len
          by_cases he : asked k hs j = gt hs j
          · have HP2 := Lib.hid (HP.out.same he)
            have hne : (((asked k hs j : Nat) : Int) != ((gt hs j : Nat) : Int)) = false := by rw [he]; simp
            clear he
            generalize asked k hs j = ak at *
            go_wp2_with fail
            refine HAK.out.mono ?_
            rintro e w2 ⟨rfl, hb2⟩
            have ho2 := own_below ho hb2
            have cg := own_gen ho2 rfl hlt
            have hbx2 := hbxr.to hb2
            obtain ⟨q1, q2, c0, c1, c2, c3, c4⟩ := id hbx2
            go_wp2_with fail
            go_roundg (k.procs.length - (j + 1))
            case measure => omega
            case rel => exact ⟨j + 1, hs, nw, by omega, rfl, by go_num, rfl, ho2, HS.out, HP2.out, hbx2⟩
          · have HP2 := Lib.hid (HP.out.less HS.out hlt he)
            have HS2 := Lib.hid (HS.out.step HR.out hlt)
            have hne : (((asked k hs j : Nat) : Int) != ((gt hs j : Nat) : Int)) = true := by
              simp only [bne_iff_ne, ne_eq]
              omega
            clear he
            generalize asked k hs j = ak at *
            go_wp2_with fail
            refine HAK.out.mono ?_
            rintro e w2 ⟨rfl, hb2⟩
            have ho2 := own_below ho hb2
            have cg := own_gen ho2 rfl hlt
            have fz := ho2.frozenAt (j * 2 + 1)
            have ho3 := put_gen ho2 hlt HLEN.out ak
            have hbx2 := hbxr.to hb2
            obtain ⟨q1, q2, c0, c1, c2, c3, c4⟩ := id hbx2
            have hbx3 := hbx2.grown (grown_set w2 ⟨gb, j * 2 + 1, none⟩ (.int .i64 (ak : Int))) (show w.heap.size < gb from by omega)
            obtain ⟨q1, q2, d0, d1, d2, d3, d4⟩ := id hbx3
            go_wp2_with fail
            go_roundg (k.procs.length - (j + 1))
            case measure => omega
            case rel => exact ⟨j + 1, hs.set j ak, true, by omega, rfl, by go_num, rfl, ho3, HS2.out, HP2.out, hbx3⟩
        · obtain rfl : j = k.procs.length := by omega
          go_wp2_with fail
          go_roundg (2 * hs.sum + (if nw then 1 else 0))
          case measure =>
            cases nw
            · rw [(HP.out.no rfl).1]; simp
            · have := HP.out.yes rfl; simp; omega
          case rel => exact ⟨hs, nw, rfl, rfl, ho, HS.out, fun hf => by rw [(HP.out.no hf).1]; exact (HP.out.no hf).2, hbxr⟩
end Go.Proofs.YtkgoajnnkimkaaaGreat
