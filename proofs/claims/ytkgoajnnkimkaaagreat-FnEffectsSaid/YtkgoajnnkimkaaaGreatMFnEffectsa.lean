/- Contracts of asked, firstEffects, effects, and of the reference's l13Gen, l13New, l13Effects. -/
import Derived.Test.YtkgoajnnkimkaaaGreatMFnEffects
import Derived.Test.YtkgoajnnkimkaaaGreatH4
import Derived.Carry
import Derived.ChangeSame
import Derived.ChangeSlices
import Derived.Deep.Strs
import Derived.Lib.SmallJoins
set_option linter.unusedSimpArgs false
set_option linter.unusedVariables false
namespace Go.Proofs.YtkgoajnnkimkaaaGreat
open Go.ChangeShapes Go.WideShapes Go.ChangeAt Go.RowKit

/-- A new table. -/
def NewEff (w : World) (es : List (Int × Int)) (e : Ending) (w' : World) : Prop := NewRow w 39 2 es.length (effCells es) e w'
theorem effCells_snoc (es : List (Int × Int)) (e : Int × Int) : effCells (es ++ [e]) = effCells es ++ [iv e.1, iv e.2] := by
  induction es with
  | nil => rfl
  | cons a r ih => simp [effCells, ih]
theorem effCells_set : ∀ (es : List (Int × Int)) (i : Nat) (h : i < es.length) (x : Int), (effCells es).set (i * 2 + 1) (iv x) = effCells (es.set i (es[i].1, x))
  | e :: r, 0, _, x => rfl
  | e :: r, i + 1, h, x => by
    have := effCells_set r i (by simpa using h) x
    have e1 : (i + 1) * 2 + 1 = (i * 2 + 1) + 1 + 1 := by omega
    rw [e1]
    simpa [effCells] using this
/-- The first procedures of the first table. -/
noncomputable def effP (k : Cd) (j : Nat) : List (Int × Int) := (List.range j).map fun p => (((keepN k p : Nat) : Int), ((63 : Nat) : Int))
theorem effP_len (k : Cd) (j : Nat) : (effP k j).length = j := by simp [effP]
theorem effP_snoc (k : Cd) (j : Nat) : effP k (j + 1) = effP k j ++ [(((keepN k j : Nat) : Int), ((63 : Nat) : Int))] := by simp [effP, List.range_succ]
theorem effP_all (k : Cd) : effP k k.procs.length = effL k (List.replicate k.procs.length 63) := by
  refine List.ext_getElem (by simp [effP, effL]) fun i h1 h2 => ?_
  have hi : i < k.procs.length := by simpa [effP] using h1
  rw [effL_get, gt_replicate hi]
  simp [effP]
section
variable (w : World) {ops : Array Oper} {rest : List Oper} {o : Oper} {a : Act} {Q : Exit → Act → World → Prop}
theorem append_eff {wr : World} (hgd : o.guard = none) (s x : Operand) (ho : o.op = .call { callee := .builtin .append, args := #[s, x], argTypes := #[30, 30] })
    {base : Nat} {v : Value} {n : Nat} {es : List (Int × Int)} {y z : Int} (hown : wr.ownsRow base 39 2 v n (effCells es)) (hs : a.eval s = v) (hx : a.eval x = .slice (some ⟨wr.heap.size, 0, none⟩) 1 1)
    (hn : n ≤ 1099511627775) (hbase : base ≤ wr.heap.size)
    (hK : ∀ A c w', w'.ownsRow base 39 2 (.slice A (n + 1) c) (n + 1) (effCells (es ++ [(y, z)])) → wr.grownBy w' v.ownBlock → ((Value.slice A (n + 1) c).ownBlock = v.ownBlock ∨ (Value.slice A (n + 1) c).ownBlock = some (wr.heap.size + 1)) →
      wpList Tryz.prog ops Q rest (a.put o.dst (.slice A (n + 1) c)) w') : wpList Tryz.prog ops Q (o :: rest) a (wr.alloc (.cells #[.int .i64 y, .int .i64 z] 39)) :=
  append_cells Tryz.underlying30 info_eff rfl (by omega) (by omega) hgd s x ho [.int .i64 y, .int .i64 z] hown hs hx rfl (by simp [Value.oneCell']) hn hbase
    fun A c w' h1 h2 h3 => hK A c w' (by rw [effCells_snoc]; exact h1) h2 h3
end
/-- A cell of a table of one's own. -/
theorem own_gen {W : World} {base gb n c : Nat} {k : Cd} {gs : List Nat} (h : W.ownsRow base 39 2 (.slice (some ⟨gb, 0, none⟩) n c) n (effCells (effL k gs))) (hn : n = k.procs.length) {p : Nat} (hp : p < k.procs.length) :
    W.cell? ⟨gb, p * 2 + 1, none⟩ = some (.int .i64 ((gt gs p : Nat) : Int)) := by
  have hl : p < (effL k gs).length := by rw [effL_len]; exact hp
  rw [h.cellAt (p * 2 + 1) (by omega), effCells_gen _ p hl, effL_get hl]
  rfl
theorem put_gen {W : World} {base gb n c : Nat} {k : Cd} {gs : List Nat} (h : W.ownsRow base 39 2 (.slice (some ⟨gb, 0, none⟩) n c) n (effCells (effL k gs))) {p : Nat} (hp : p < k.procs.length) (hl : gs.length = k.procs.length) (y : Nat) :
    (W.setCell ⟨gb, p * 2 + 1, none⟩ (.int .i64 (y : Int))).ownsRow base 39 2 (.slice (some ⟨gb, 0, none⟩) n c) n (effCells (effL k (gs.set p y))) := by
  obtain ⟨s1, _⟩ := h.stored (p * 2 + 1) (.int .i64 (y : Int))
  have hp2 : p < (effL k gs).length := by rw [effL_len]; exact hp
  have e := effCells_set (effL k gs) p hp2 (y : Int)
  rw [effL_get hp2] at e
  rw [effL_set hl hp, ← e]
  exact s1

set_option maxRecDepth 100000 in
set_option maxHeartbeats 4000000 in
theorem asked_any {B B' : Nat} (g : Nat) (v : CV) (k : Cd) (A : Option Addr) (c : Nat) (gs : List Nat) (p : Nat) (w : World) (hr : Right k) (hW : WAt w B g v k) (he : Rd w B' A (effCells (effL k gs))) (hlt : ∀ i, gt gs i < 64) (hp : p < k.procs.length) :
    Calls Tryz.prog 155 #[.pointer (some ⟨g, 0, none⟩), .slice A k.procs.length c, .int .i64 p] w fun e w' => e = .returned (.int .i64 ((asked k gs p : Nat) : Int)) ∧ Below w.heap.size w w' := by
  have hWf := hW.full
  have hkf := hWf.code
  have hef := he.full
  have hins := hr.ins
  have hpl := hr.procs
  have hfl := hr.lt p hp
  have HEN := Lib.hid (fun W (hb : Below w.heap.size w W) => (show Calls Tryz.prog 162 #[.agg #[.slice v.gA k.globals.length v.gc, .slice v.lA k.locks.length v.lc, .slice v.pA k.procs.length v.pc, .slice v.eA k.entry.length v.ec, .slice v.iA k.ins.length v.ic], .int .i64 (p : Int)] W fun e w' => e = .returned (.int .i64 ((fin k p : Nat) : Int)) ∧ Below W.heap.size W w' from by
    have h1 := endOfProc_any v k p W (hkf.below hb) (by omega) (by have := hr.entry; omega) (by omega)
    rw [hr.fin_eq p hp] at h1
    exact h1))
  have HFL := Lib.hid (fun W (hb : Below w.heap.size w W) => (show Calls Tryz.prog 91 #[.pointer (some ⟨g, 0, none⟩), .slice A k.procs.length c, .int .i64 p, .int .i64 0] W fun e w' => ∃ Af cf, e = .returned (.slice Af k.ins.length cf) ∧ Rd w' w'.heap.size Af (nv (flowN k (effL k gs) p 0)) ∧ Below W.heap.size W w' from by
    have h := flow_any g v k A c (effL k gs) p 0 W hr (hWf.below hb) (hef.below hb) (effL_ok hlt) (effL_len k gs) hp (by omega)
    rw [effL_len] at h
    refine h.mono ?_
    rintro e w' ⟨Af, cf, rfl, ho, hb'⟩
    rw [flowN_len hr hp] at ho ⊢
    exact ⟨Af, cf, rfl, own_rd ho, hb'⟩))
  have hfe : fin k p - 1 < k.ins.length := by omega
  have hwr : IntKind.i64.wrap ((fin k p - 1 : Nat) : Int) = ((fin k p - 1 : Nat) : Int) := (by
    generalize fin k p - 1 = q at hfe
    rw [IntKind.wrap_i64]
    omega)
  have y3 : (0 : Int) ≤ ((fin k p - 1 : Nat) : Int) := by omega
  have y4 : ((fin k p - 1 : Nat) : Int) < (k.ins.length : Int) := by omega
  have hgx := gt_some (xs := flowN k (effL k gs) p 0) (i := fin k p - 1) (by rw [flowN_len hr hp]; exact hfe)
  have HGX := Lib.hid (nv_get hgx)
  have HAS := Lib.hid (show asked k gs p = gt (flowN k (effL k gs) p 0) (fin k p - 1) from rfl)
  have hsub : ((fin k p : Nat) : Int) - 1 = ((fin k p - 1 : Nat) : Int) := by omega
  obtain ⟨c0, c1, c2, c3, c4⟩ := hWf.kat
  have hb0 := Below.refl w.heap.size w
  clear hr hW he hlt hWf hkf hef hgx
  go_enter Tryz.func155, Tryz.ntmps155
  go_wp2_with fail
  refine wp_region_held_drew (S := fun w' => Below w.heap.size w w') (by kernel_rfl) ((Below.refl _ _).drew) (fun hHeld => ?_)
  first | refine hs_ 0 ?_ | (refine hr_ 0 ?_ ?_ ?_; rotate_left; (intro W hW; obtain ⟨f0, f1, f2, f3, f4⟩ := cb5 hW c0 c1 c2 c3 c4; go_simp; try with_reducible rfl))
  first | refine hs_ 1 ?_ | (refine hr_ 1 ?_ ?_ ?_; rotate_left; (intro W hW; obtain ⟨f0, f1, f2, f3, f4⟩ := cb5 hW c0 c1 c2 c3 c4; go_simp; try with_reducible rfl))
  first | refine hs_ 2 ?_ | (refine hr_ 2 ?_ ?_ ?_; rotate_left; (intro W hW; obtain ⟨f0, f1, f2, f3, f4⟩ := cb5 hW c0 c1 c2 c3 c4; go_simp; try with_reducible rfl))
  first | refine hs_ 4 ?_ | (refine hr_ 4 ?_ ?_ ?_; rotate_left; (intro W hW; obtain ⟨f0, f1, f2, f3, f4⟩ := cb5 hW c0 c1 c2 c3 c4; go_simp; try with_reducible rfl))
  first | refine hs_ 5 ?_ | (refine hr_ 5 ?_ ?_ ?_; rotate_left; (intro W hW; obtain ⟨f0, f1, f2, f3, f4⟩ := cb5 hW c0 c1 c2 c3 c4; go_simp; try with_reducible rfl))
  first | refine hs_ 6 ?_ | (refine hr_ 6 ?_ ?_ ?_; rotate_left; (intro W hW; obtain ⟨f0, f1, f2, f3, f4⟩ := cb5 hW c0 c1 c2 c3 c4; go_simp; try with_reducible rfl))
  first | refine hs_ 7 ?_ | (refine hr_ 7 ?_ ?_ ?_; rotate_left; (intro W hW; obtain ⟨f0, f1, f2, f3, f4⟩ := cb5 hW c0 c1 c2 c3 c4; go_simp; try with_reducible rfl))
  first | refine hs_ 8 ?_ | (refine hr_ 8 ?_ ?_ ?_; rotate_left; (intro W hW; obtain ⟨f0, f1, f2, f3, f4⟩ := cb5 hW c0 c1 c2 c3 c4; go_simp; try with_reducible rfl))
  refine ho_ 3 fun K hK => ?_
  go_simp
  refine (HFL.out _ (below_trans' hb0 hHeld)).mono ?_
  rintro e wf ⟨Af, cf, rfl, hrf, hbf⟩
  obtain ⟨adf, eaf, _, hcf⟩ := hrf _ _ HGX.out
  subst eaf
  refine hk_ hK (below_trans' hHeld hbf) fun hHeld => ?_
  clear hK K
  refine ho_ 9 fun K hK => ?_
  go_simp
  refine (HEN.out _ (below_trans' hb0 hHeld)).mono ?_
  rintro e we ⟨rfl, hbe⟩
  try have hcf := cell_below hbe hcf
  refine hk_ hK (below_trans' hHeld hbe) fun hHeld => ?_
  clear hK K
  first | refine hs_ 10 ?_ | (refine hr_ 10 ?_ ?_ ?_; rotate_left; (intro W hW; obtain ⟨f0, f1, f2, f3, f4⟩ := cb5 hW c0 c1 c2 c3 c4; go_simp; try with_reducible rfl))
  first | refine hs_ 11 ?_ | (refine hr_ 11 ?_ ?_ ?_; rotate_left; (intro W hW; obtain ⟨f0, f1, f2, f3, f4⟩ := cb5 hW c0 c1 c2 c3 c4; go_simp; try with_reducible rfl))
  refine ho_ 12 fun K hK => ?_
  go_simp
  skip
  refine hk_ hK (hHeld) fun hHeld => ?_
  clear hK K
  first | refine hs_ 13 ?_ | (refine hr_ 13 ?_ ?_ ?_; rotate_left; (intro W hW; obtain ⟨f0, f1, f2, f3, f4⟩ := cb5 hW c0 c1 c2 c3 c4; go_simp; try with_reducible rfl))
  refine wpAnyH_done (by kernel_rfl) ?_ _
  go_wp2_with fail
  go_ret
  exact ⟨ret_int (by rw [HAS.out]), hHeld⟩

set_option maxRecDepth 100000 in
set_option maxHeartbeats 4000000 in
theorem l13Gen_any {B B' L : Nat} (v : CV) (k : Cd) (A : Option Addr) (c : Nat) (gs : List Nat) (p : Nat) (w : World) (hr : Right k) (hk : CodeAt w B v k) (hcb : CdB L k) (hL : L ≤ 1048576) (he : Rd w B' A (effCells (effL k gs))) (hlt : ∀ i, gt gs i < 64) (hp : p < k.procs.length) :
    Calls Tryz.prog 159 #[.agg #[.slice v.gA k.globals.length v.gc, .slice v.lA k.locks.length v.lc, .slice v.pA k.procs.length v.pc, .slice v.eA k.entry.length v.ec, .slice v.iA k.ins.length v.ic], .slice A k.procs.length c, .int .i64 p] w fun e w' => e = .returned (.int .i64 ((asked k gs p : Nat) : Int)) ∧ Below w.heap.size w w' := by
  have hkf := hk.full
  have hef := he.full
  have hbx := codeBox w v k
  have hins := hr.ins
  have hpl := hr.procs
  have hfl := hr.lt p hp
  have HEN := Lib.hid (fun W (hb : Below w.heap.size w W) => l08End_right v k p W hr (hkf.below hb) hcb hL hp)
  have HFL := Lib.hid (fun W (hb : Below w.heap.size w W) => (show Calls Tryz.prog 176 #[.agg #[.slice v.gA k.globals.length v.gc, .slice v.lA k.locks.length v.lc, .slice v.pA k.procs.length v.pc, .slice v.eA k.entry.length v.ec, .slice v.iA k.ins.length v.ic], .slice A k.procs.length c, .int .i64 p, .int .i64 0] W fun e w' => ∃ Af cf, e = .returned (.slice Af k.ins.length cf) ∧ Rd w' w'.heap.size Af (nv (flowN k (effL k gs) p 0)) ∧ Below W.heap.size W w' from by
    have h := l13From_any v k A c (effL k gs) p 0 W hr (hkf.below hb) (hef.below hb) (effL_ok hlt) (effL_len k gs) hp (by omega)
    rw [effL_len] at h
    refine h.mono ?_
    rintro e w' ⟨Af, cf, rfl, ho, hb'⟩
    rw [flowN_len hr hp] at ho ⊢
    exact ⟨Af, cf, rfl, own_rd ho, hb'⟩))
  have hfe : fin k p - 1 < k.ins.length := by omega
  have hwr : IntKind.i64.wrap ((fin k p - 1 : Nat) : Int) = ((fin k p - 1 : Nat) : Int) := (by
    generalize fin k p - 1 = q at hfe
    rw [IntKind.wrap_i64]
    omega)
  have y3 : (0 : Int) ≤ ((fin k p - 1 : Nat) : Int) := by omega
  have y4 : ((fin k p - 1 : Nat) : Int) < (k.ins.length : Int) := by omega
  have hgx := gt_some (xs := flowN k (effL k gs) p 0) (i := fin k p - 1) (by rw [flowN_len hr hp]; exact hfe)
  have HGX := Lib.hid (nv_get hgx)
  have HAS := Lib.hid (show asked k gs p = gt (flowN k (effL k gs) p 0) (fin k p - 1) from rfl)
  clear hr hk he hlt hkf hef hgx hcb
  go_enter Tryz.func159, Tryz.ntmps159
  go_wp2_with fail
  generalize w.alloc (.cells #[.slice v.gA k.globals.length v.gc, .slice v.lA k.locks.length v.lc, .slice v.pA k.procs.length v.pc, .slice v.eA k.entry.length v.ec, .slice v.iA k.ins.length v.ic] 28) = W at hbx ⊢
  have hb0 := hbx.1
  obtain ⟨q1, q2, c0, c1, c2, c3, c4⟩ := id hbx
  refine wp_region_held_drew (S := fun w' => Below W.heap.size W w') (by kernel_rfl) ((Below.refl _ _).drew) (fun hHeld => ?_)
  first | refine hs_ 0 ?_ | (refine hr_ 0 ?_ ?_ ?_; rotate_left; (intro W hW; obtain ⟨f0, f1, f2, f3, f4⟩ := cb5 hW c0 c1 c2 c3 c4; go_simp; try with_reducible rfl))
  first | refine hs_ 1 ?_ | (refine hr_ 1 ?_ ?_ ?_; rotate_left; (intro W hW; obtain ⟨f0, f1, f2, f3, f4⟩ := cb5 hW c0 c1 c2 c3 c4; go_simp; try with_reducible rfl))
  first | refine hs_ 2 ?_ | (refine hr_ 2 ?_ ?_ ?_; rotate_left; (intro W hW; obtain ⟨f0, f1, f2, f3, f4⟩ := cb5 hW c0 c1 c2 c3 c4; go_simp; try with_reducible rfl))
  first | refine hs_ 4 ?_ | (refine hr_ 4 ?_ ?_ ?_; rotate_left; (intro W hW; obtain ⟨f0, f1, f2, f3, f4⟩ := cb5 hW c0 c1 c2 c3 c4; go_simp; try with_reducible rfl))
  first | refine hs_ 5 ?_ | (refine hr_ 5 ?_ ?_ ?_; rotate_left; (intro W hW; obtain ⟨f0, f1, f2, f3, f4⟩ := cb5 hW c0 c1 c2 c3 c4; go_simp; try with_reducible rfl))
  refine ho_ 3 fun K hK => ?_
  go_simp
  refine (HFL.out _ (below_trans' hb0 hHeld)).mono ?_
  rintro e wf ⟨Af, cf, rfl, hrf, hbf⟩
  obtain ⟨adf, eaf, _, hcf⟩ := hrf _ _ HGX.out
  subst eaf
  refine hk_ hK (below_trans' hHeld hbf) fun hHeld => ?_
  clear hK K
  refine ho_ 6 fun K hK => ?_
  go_simp
  refine (HEN.out _ (below_trans' hb0 hHeld)).mono ?_
  rintro e we ⟨rfl, hbe⟩
  try have hcf := cell_below hbe hcf
  refine hk_ hK (below_trans' hHeld hbe) fun hHeld => ?_
  clear hK K
  first | refine hs_ 7 ?_ | (refine hr_ 7 ?_ ?_ ?_; rotate_left; (intro W hW; obtain ⟨f0, f1, f2, f3, f4⟩ := cb5 hW c0 c1 c2 c3 c4; go_simp; try with_reducible rfl))
  refine ho_ 8 fun K hK => ?_
  go_simp
  skip
  refine hk_ hK (hHeld) fun hHeld => ?_
  clear hK K
  first | refine hs_ 9 ?_ | (refine hr_ 9 ?_ ?_ ?_; rotate_left; (intro W hW; obtain ⟨f0, f1, f2, f3, f4⟩ := cb5 hW c0 c1 c2 c3 c4; go_simp; try with_reducible rfl))
  refine wpAnyH_done (by kernel_rfl) ?_ _
  go_wp2_with fail
  go_ret
  exact ⟨ret_int (by rw [HAS.out]), below_trans' hb0 hHeld⟩

set_option maxHeartbeats 4000000 in
theorem firstEffects_any {B : Nat} (g : Nat) (v : CV) (k : Cd) (w : World) (hr : Right k) (hW : WAt w B g v k) :
    Calls Tryz.prog 154 #[.pointer (some ⟨g, 0, none⟩)] w (NewEff w (effL k (List.replicate k.procs.length 63))) := by
  have hWf := hW.full
  have hpl := hr.procs
  have hkat := hWf.kat
  have HKP := Lib.hid (fun p (hp : p < k.procs.length) W (hb : Below w.heap.size w W) => keepIn_any g v k p W hr (hWf.below hb) hp)
  have HPA := Lib.hid (effP_all k)
  have HKT := Lib.hid (fun W (hb : Below w.heap.size w W) => hWf.kat.to hb)
  obtain ⟨c0, c1, c2, c3, c4⟩ := id hkat
  clear hr hW hWf hkat
  go_enter Tryz.func154, Tryz.ntmps154
  go_wp2_with fail
  have hb00 := Below.refl w.heap.size w
  go_loopg [3, 11] k.procs.length (fun l out i wr => ∃ j : Nat, j ≤ k.procs.length ∧ l = k.procs.length - j ∧ i = .int .i64 j ∧ wr.ownsRow w.heap.size 39 2 out j (effCells (effP k j)) ∧ Below w.heap.size w wr)
  case atStart => exact ⟨0, by omega, by omega, rfl, World.ownsRow_nil _ _ _ _, hb00⟩
  case round =>
    obtain ⟨j, hj, rfl, rfl, ho, hb⟩ := hrel
    obtain ⟨Ao, co, rfl⟩ := own_form ho
    have hsz := hb.size
    
    by_cases hlt : j < k.procs.length
    · have HS := Lib.hid (effP_snoc k j)
      have z1 : (0 : Int) ≤ (j : Int) := by omega
      have z2 : (j : Int) < (k.procs.length : Int) := by omega
      go_wp2_with fail
      refine (HKP.out j hlt _ hb).mono ?_
      rintro e w2 ⟨rfl, hb2⟩
      have ho2 := own_below ho hb2
      have hb02 := below_trans' hb hb2
      have hsz2 := hb02.size
      
      
      go_wp2_with (at_builtin; refine append_eff rfl _ _ rfl (y := ((keepN k j : Nat) : Int)) (z := ((63 : Nat) : Int)) ho2 rfl rfl (by omega) hsz2 ?_; intro A' c' w3 ho3 hg3 _)
      go_roundg (k.procs.length - (j + 1))
      case measure => omega
      case rel => exact ⟨j + 1, by omega, rfl, by go_num, by rw [HS.out]; exact ho3, below_append hb02 ho2 hg3 hsz2 (Nat.le_refl _)⟩
    · obtain rfl : j = k.procs.length := by omega
      have HFI := Lib.hid (show NewEff w (effL k (List.replicate k.procs.length 63)) (.returned (.slice Ao k.procs.length co)) wr from by
        rw [← HPA.out]
        exact ⟨Ao, co, by rw [effP_len], by rw [effP_len]; exact ho, hb⟩)
      go_wp2_with fail
      go_ret
      exact HFI.out

theorem preEff (w : World) (v : CV) (k : Cd) : CodeBox w v k ((w.alloc (.cells #[.slice v.gA k.globals.length v.gc, .slice v.lA k.locks.length v.lc, .slice v.pA k.procs.length v.pc, .slice v.eA k.entry.length v.ec, .slice v.iA k.ins.length v.ic] 28)).alloc (.cells #[] 39)) ∧ ((w.alloc (.cells #[.slice v.gA k.globals.length v.gc, .slice v.lA k.locks.length v.lc, .slice v.pA k.procs.length v.pc, .slice v.eA k.entry.length v.ec, .slice v.iA k.ins.length v.ic] 28)).alloc (.cells #[] 39)).ownsRow (w.heap.size + 1) 39 2 (.slice (some ⟨w.heap.size + 1, 0, none⟩) 0 0) 0 (effCells (effP k 0)) := by
  refine ⟨(codeBox w v k).to (below_alloc0 _ _), ?_⟩
  have := World.ownsRow_lit (base := w.heap.size + 1) (e := 39) (size := 2) (w.alloc (.cells #[.slice v.gA k.globals.length v.gc, .slice v.lA k.locks.length v.lc, .slice v.pA k.procs.length v.pc, .slice v.eA k.entry.length v.ec, .slice v.iA k.ins.length v.ic] 28)) #[] 0 (by simp) (by simp) rfl
  simpa [effCells, effP] using this

set_option maxHeartbeats 4000000 in
theorem l13New_any {B : Nat} (v : CV) (k : Cd) (w : World) (hr : Right k) (hk : CodeAt w B v k) :
    Calls Tryz.prog 158 #[.agg #[.slice v.gA k.globals.length v.gc, .slice v.lA k.locks.length v.lc, .slice v.pA k.procs.length v.pc, .slice v.eA k.entry.length v.ec, .slice v.iA k.ins.length v.ic]] w (NewEff w (effL k (List.replicate k.procs.length 63))) := by
  have hkf := hk.full
  have hpl := hr.procs
  obtain ⟨hbx, hpo⟩ := preEff w v k
  have HKP := Lib.hid (fun p (hp : p < k.procs.length) W (hb : Below w.heap.size w W) => l13Keep_any v k p W hr (hkf.below hb) hp)
  have HPA := Lib.hid (effP_all k)
  
  
  clear hr hk hkf
  go_enter Tryz.func158, Tryz.ntmps158
  go_wp2_with fail
  generalize (w.alloc (.cells #[.slice v.gA k.globals.length v.gc, .slice v.lA k.locks.length v.lc, .slice v.pA k.procs.length v.pc, .slice v.eA k.entry.length v.ec, .slice v.iA k.ins.length v.ic] 28)).alloc (.cells #[] 39) = W at hbx hpo ⊢
  go_loopg [3, 4] k.procs.length (fun l out i wr => ∃ j : Nat, j ≤ k.procs.length ∧ l = k.procs.length - j ∧ i = .int .i64 j ∧ wr.ownsRow (w.heap.size + 1) 39 2 out j (effCells (effP k j)) ∧ CodeBox w v k wr)
  case atStart => exact ⟨0, by omega, by omega, rfl, hpo, hbx⟩
  case round =>
    clear hpo hbx
    obtain ⟨j, hj, rfl, rfl, ho, hbxr⟩ := hrel
    have hb := hbxr.1
    obtain ⟨Ao, co, rfl⟩ := own_form ho
    have hsz := hb.size
    obtain ⟨q1, q2, c0, c1, c2, c3, c4⟩ := id hbxr
    by_cases hlt : j < k.procs.length
    · have HS := Lib.hid (effP_snoc k j)
      have z1 : (0 : Int) ≤ (j : Int) := by omega
      have z2 : (j : Int) < (k.procs.length : Int) := by omega
      go_wp2_with fail
      refine (HKP.out j hlt _ hbxr.1).mono ?_
      rintro e w2 ⟨rfl, hb2⟩
      have ho2 := own_below ho hb2
      have hb02 := below_trans' hb hb2
      have hsz2 : w.heap.size + 1 ≤ w2.heap.size := (hbxr.to hb2).2.1
      have hbx2 := hbxr.to hb2
      clear q1 q2 c0 c1 c2 c3 c4
      go_wp2_with (at_builtin; refine append_eff rfl _ _ rfl (y := ((keepN k j : Nat) : Int)) (z := ((63 : Nat) : Int)) ho2 rfl rfl (by omega) hsz2 ?_; intro A' c' w3 ho3 hg3 _)
      go_roundg (k.procs.length - (j + 1))
      case measure => omega
      case rel => exact ⟨j + 1, by omega, rfl, by go_num, by rw [HS.out]; exact ho3, hbx2.app ho2 hg3 (by omega)⟩
    · obtain rfl : j = k.procs.length := by omega
      have HFI := Lib.hid (show NewEff w (effL k (List.replicate k.procs.length 63)) (.returned (.slice Ao k.procs.length co)) wr from by
        rw [← HPA.out]
        exact ⟨Ao, co, by rw [effP_len], by rw [effP_len]; exact own_mono ho (by omega), hb⟩)
      go_wp2_with fail
      go_ret
      exact HFI.out

set_option maxHeartbeats 4000000 in
theorem effects_any {B : Nat} (g : Nat) (v : CV) (k : Cd) (w : World) (hr : Right k) (hW : WAt w B g v k) :
    Calls Tryz.prog 83 #[.pointer (some ⟨g, 0, none⟩)] w fun e w' => NewEff w (effN k) e w' ∧ ∀ i, gt (genN k) i < 64 := by
  have hWf := hW.full
  have hpl := hr.procs
  
  have h0p := List.length_pos_of_mem hr.main
  have HFE := Lib.hid (fun W (hb : Below w.heap.size w W) => firstEffects_any g v k W hr (hWf.below hb))
  have HAS := Lib.hid (fun A c gs B' p (hp : p < k.procs.length) W (hb : Below w.heap.size w W) (he : Rd W B' A (effCells (effL k gs))) (hlt : ∀ i, gt gs i < 64) => asked_any g v k A c gs p W hr (hWf.below hb) he hlt hp)
  have HKT := Lib.hid (fun W (hb : Below w.heap.size w W) => hWf.kat.to hb)
  have HR := Lib.hid hr
  have HE0 := Lib.hid (effS0 hr)
  obtain ⟨c0, c1, c2, c3, c4⟩ := hWf.kat
  clear hr hW hWf
  go_enter Tryz.func83, Tryz.ntmps83
  go_wp2_with fail
  refine (HFE.out _ (Below.refl _ _)).mono ?_
  rintro e w1 ⟨Ae, ce, rfl, hoe, hb1⟩
  rw [effL_len] at hoe ⊢
  
  have hb01 := hb1
  obtain ⟨gb, rfl⟩ : ∃ gb, Ae = some ⟨gb, 0, none⟩ := by
    rcases hoe.2 with ⟨e, h0⟩ | ⟨g, cap, cur, e, _⟩
    · omega
    · injection e with e; exact ⟨g, e⟩
  have hgb := (hoe.lt gb rfl).1
  
  have hoe := own_mono hoe (b := w.heap.size) (Nat.le_refl _)
  clear hb1 c0 c1 c2 c3 c4
  go_wp2_with fail
  go_loopg [4] (2 * (List.replicate k.procs.length 63).sum + 1) (fun l ag wr => ∃ (gs : List Nat) (new : Bool), ag = .bool new ∧ l = 2 * gs.sum + (if new then 1 else 0) ∧ wr.ownsRow w.heap.size 39 2 (.slice (some ⟨gb, 0, none⟩) k.procs.length ce) k.procs.length (effCells (effL k gs)) ∧ EffS k gs ∧ (new = false → ∀ p, p < k.procs.length → asked k gs p = gt gs p) ∧ Below w.heap.size w wr)
  case atStart => exact ⟨_, true, rfl, rfl, hoe, HE0.out, by simp, hb01⟩
  case round =>
    clear hoe hb01
    obtain ⟨gs, new, rfl, rfl, ho, hS, hfx, hb⟩ := hrel
    have HFX := Lib.hid hfx
    have HS := Lib.hid hS
    clear hfx hS
    cases new
    · have hfin := HS.out.stop (HFX.out rfl)
      have hln := genN_lt hfin HS.out
      have HFI := Lib.hid (show NewEff w (effN k) (.returned (.slice (some ⟨gb, 0, none⟩) k.procs.length ce)) wr from by
        unfold effN
        rw [← hfin]
        exact ⟨some ⟨gb, 0, none⟩, ce, by rw [effL_len], by rw [effL_len]; exact ho, hb⟩)
      have HLN := Lib.hid hln
      clear hfin hln
      go_wp2_with fail
      go_ret
      exact ⟨HFI.out, HLN.out⟩
    · go_wp2_with fail
      clear HFX
      obtain ⟨wo, rfl⟩ : ∃ wo : World, wo = wr := ⟨_, rfl⟩
      go_loopg [4, 12] k.procs.length (fun l ag i wr => ∃ (j : Nat) (hs : List Nat) (nw : Bool), j ≤ k.procs.length ∧ l = k.procs.length - j ∧ i = .int .i64 j ∧ ag = .bool nw ∧ wr.ownsRow w.heap.size 39 2 (.slice (some ⟨gb, 0, none⟩) k.procs.length ce) k.procs.length (effCells (effL k hs)) ∧ EffS k hs ∧ EfR k gs j nw hs ∧ Below w.heap.size w wr)
      case atStart => exact ⟨0, gs, false, by omega, by omega, rfl, rfl, ho, HS.out, EfR.refl _ _, hb⟩
      case round =>
        clear ho HS hb
        obtain ⟨j, hs, nw, hj, rfl, rfl, rfl, ho, hS, hP, hb⟩ := hrel
        have HS := Lib.hid hS
        have HP := Lib.hid hP
        clear hS hP
        
        obtain ⟨c0, c1, c2, c3, c4⟩ := HKT.out _ hb
        by_cases hlt : j < k.procs.length
        · have HAK := Lib.hid (HAS.out (some ⟨gb, 0, none⟩) ce hs _ j hlt wr hb (own_rd ho) HS.out.le)
          have z1 : (0 : Int) ≤ (j : Int) := by omega
          have z2 : (j : Int) < (k.procs.length : Int) := by omega
          have HLEN := Lib.hid HS.out.len
          by_cases he : asked k hs j = gt hs j
          · have HP2 := Lib.hid (HP.out.same he)
            have hne : (((asked k hs j : Nat) : Int) != ((gt hs j : Nat) : Int)) = false := by rw [he]; simp
            clear he
            generalize asked k hs j = ak at *
            go_wp2_with fail
            refine HAK.out.mono ?_
            rintro e w2 ⟨rfl, hb2⟩
            have ho2 := own_below ho hb2
            have cg := own_gen ho2 rfl hlt
            have hb02 := below_trans' hb hb2
            
            go_wp2_with fail
            go_roundg (k.procs.length - (j + 1))
            case measure => omega
            case rel => exact ⟨j + 1, hs, nw, by omega, rfl, by go_num, rfl, ho2, HS.out, HP2.out, hb02⟩
          · have HP2 := Lib.hid (HP.out.less HS.out hlt he)
            have HS2 := Lib.hid (HS.out.step HR.out hlt)
            have hne : (((asked k hs j : Nat) : Int) != ((gt hs j : Nat) : Int)) = true := by
              simp only [bne_iff_ne, ne_eq]
              omega
            clear he
            generalize asked k hs j = ak at *
            go_wp2_with fail
            refine HAK.out.mono ?_
            rintro e w2 ⟨rfl, hb2⟩
            have ho2 := own_below ho hb2
            have cg := own_gen ho2 rfl hlt
            have fz := ho2.frozenAt (j * 2 + 1)
            have ho3 := put_gen ho2 hlt HLEN.out ak
            have hb02 := below_trans' hb hb2
            
            have hb03 := hb02.grown (grown_set w2 ⟨gb, j * 2 + 1, none⟩ (.int .i64 (ak : Int))) hb02.size (fun q hq => by cases hq; exact hgb)
            
            go_wp2_with fail
            go_roundg (k.procs.length - (j + 1))
            case measure => omega
            case rel => exact ⟨j + 1, hs.set j ak, true, by omega, rfl, by go_num, rfl, ho3, HS2.out, HP2.out, hb03⟩
        · obtain rfl : j = k.procs.length := by omega
          go_wp2_with fail
          go_roundg (2 * hs.sum + (if nw then 1 else 0))
          case measure =>
            cases nw
            · rw [(HP.out.no rfl).1]; simp
            · have := HP.out.yes rfl; simp; omega
          case rel => exact ⟨hs, nw, rfl, rfl, ho, HS.out, fun hf => by rw [(HP.out.no hf).1]; exact (HP.out.no hf).2, hb⟩

set_option maxHeartbeats 4000000 in
theorem l13Effects_any {B L : Nat} (v : CV) (k : Cd) (w : World) (hr : Right k) (hk : CodeAt w B v k) (hcb : CdB L k) (hL : L ≤ 1048576) :
    Calls Tryz.prog 85 #[.agg #[.slice v.gA k.globals.length v.gc, .slice v.lA k.locks.length v.lc, .slice v.pA k.procs.length v.pc, .slice v.eA k.entry.length v.ec, .slice v.iA k.ins.length v.ic]] w fun e w' => NewEff w (effN k) e w' ∧ ∀ i, gt (genN k) i < 64 := by
  have hkf := hk.full
  have hpl := hr.procs
  have hbx := codeBox w v k
  have h0p := List.length_pos_of_mem hr.main
  have HFE := Lib.hid (fun W (hb : Below w.heap.size w W) => l13New_any v k W hr (hkf.below hb))
  have HAS := Lib.hid (fun A c gs B' p (hp : p < k.procs.length) W (hb : Below w.heap.size w W) (he : Rd W B' A (effCells (effL k gs))) (hlt : ∀ i, gt gs i < 64) => l13Gen_any v k A c gs p W hr (hkf.below hb) hcb hL he hlt hp)
  
  have HR := Lib.hid hr
  have HE0 := Lib.hid (effS0 hr)
  
  clear hr hk hkf hcb
  go_enter Tryz.func85, Tryz.ntmps85
  go_wp2_with fail
  generalize w.alloc (.cells #[.slice v.gA k.globals.length v.gc, .slice v.lA k.locks.length v.lc, .slice v.pA k.procs.length v.pc, .slice v.eA k.entry.length v.ec, .slice v.iA k.ins.length v.ic] 28) = W at hbx ⊢
  refine (HFE.out _ hbx.1).mono ?_
  rintro e w1 ⟨Ae, ce, rfl, hoe, hb1⟩
  rw [effL_len] at hoe ⊢
  have hbx1 := hbx.to hb1
  have hb01 := hbx1.1
  obtain ⟨gb, rfl⟩ : ∃ gb, Ae = some ⟨gb, 0, none⟩ := by
    rcases hoe.2 with ⟨e, h0⟩ | ⟨g, cap, cur, e, _⟩
    · omega
    · injection e with e; exact ⟨g, e⟩
  have hgb := (hoe.lt gb rfl).1
  have hwW := hbx.2.1
  have hoe := own_mono hoe (b := w.heap.size) (by omega)
  clear hb1 hbx
  go_wp2_with fail
  go_loopg [4] (2 * (List.replicate k.procs.length 63).sum + 1) (fun l ag wr => ∃ (gs : List Nat) (new : Bool), ag = .bool new ∧ l = 2 * gs.sum + (if new then 1 else 0) ∧ wr.ownsRow w.heap.size 39 2 (.slice (some ⟨gb, 0, none⟩) k.procs.length ce) k.procs.length (effCells (effL k gs)) ∧ EffS k gs ∧ (new = false → ∀ p, p < k.procs.length → asked k gs p = gt gs p) ∧ CodeBox w v k wr)
  case atStart => exact ⟨_, true, rfl, rfl, hoe, HE0.out, by simp, hbx1⟩
  case round =>
    clear hoe hbx1 hb01
    obtain ⟨gs, new, rfl, rfl, ho, hS, hfx, hbxr⟩ := hrel
    have HFX := Lib.hid hfx
    have HS := Lib.hid hS
    clear hfx hS
    cases new
    · have hfin := HS.out.stop (HFX.out rfl)
      have hln := genN_lt hfin HS.out
      have HFI := Lib.hid (show NewEff w (effN k) (.returned (.slice (some ⟨gb, 0, none⟩) k.procs.length ce)) wr from by
        unfold effN
        rw [← hfin]
        exact ⟨some ⟨gb, 0, none⟩, ce, by rw [effL_len], by rw [effL_len]; exact ho, hbxr.1⟩)
      have HLN := Lib.hid hln
      clear hfin hln
      go_wp2_with fail
      go_ret
      exact ⟨HFI.out, HLN.out⟩
    · go_wp2_with fail
      clear HFX
      obtain ⟨wo, rfl⟩ : ∃ wo : World, wo = wr := ⟨_, rfl⟩
      go_loopg [4, 5] k.procs.length (fun l ag i wr => ∃ (j : Nat) (hs : List Nat) (nw : Bool), j ≤ k.procs.length ∧ l = k.procs.length - j ∧ i = .int .i64 j ∧ ag = .bool nw ∧ wr.ownsRow w.heap.size 39 2 (.slice (some ⟨gb, 0, none⟩) k.procs.length ce) k.procs.length (effCells (effL k hs)) ∧ EffS k hs ∧ EfR k gs j nw hs ∧ CodeBox w v k wr)
      case atStart => exact ⟨0, gs, false, by omega, by omega, rfl, rfl, ho, HS.out, EfR.refl _ _, hbxr⟩
      case round =>
        clear ho HS hbxr
        obtain ⟨j, hs, nw, hj, rfl, rfl, rfl, ho, hS, hP, hbxr⟩ := hrel
        have HS := Lib.hid hS
        have HP := Lib.hid hP
        clear hS hP
        have hb := hbxr.1
        obtain ⟨q1, q2, c0, c1, c2, c3, c4⟩ := id hbxr
        by_cases hlt : j < k.procs.length
        · have HAK := Lib.hid (HAS.out (some ⟨gb, 0, none⟩) ce hs _ j hlt wr hb (own_rd ho) HS.out.le)
          have z1 : (0 : Int) ≤ (j : Int) := by omega
          have z2 : (j : Int) < (k.procs.length : Int) := by omega
          have HLEN := Lib.hid HS.out.len
          by_cases he : asked k hs j = gt hs j
          · have HP2 := Lib.hid (HP.out.same he)
            have hne : (((asked k hs j : Nat) : Int) != ((gt hs j : Nat) : Int)) = false := by rw [he]; simp
            clear he
            generalize asked k hs j = ak at *
            go_wp2_with fail
            refine HAK.out.mono ?_
            rintro e w2 ⟨rfl, hb2⟩
            have ho2 := own_below ho hb2
            have cg := own_gen ho2 rfl hlt
            have hbx2 := hbxr.to hb2
            obtain ⟨q1, q2, c0, c1, c2, c3, c4⟩ := id hbx2
            go_wp2_with fail
            go_roundg (k.procs.length - (j + 1))
            case measure => omega
            case rel => exact ⟨j + 1, hs, nw, by omega, rfl, by go_num, rfl, ho2, HS.out, HP2.out, hbx2⟩
          · have HP2 := Lib.hid (HP.out.less HS.out hlt he)
            have HS2 := Lib.hid (HS.out.step HR.out hlt)
            have hne : (((asked k hs j : Nat) : Int) != ((gt hs j : Nat) : Int)) = true := by
              simp only [bne_iff_ne, ne_eq]
              omega
            clear he
            generalize asked k hs j = ak at *
            go_wp2_with fail
            refine HAK.out.mono ?_
            rintro e w2 ⟨rfl, hb2⟩
            have ho2 := own_below ho hb2
            have cg := own_gen ho2 rfl hlt
            have fz := ho2.frozenAt (j * 2 + 1)
            have ho3 := put_gen ho2 hlt HLEN.out ak
            have hbx2 := hbxr.to hb2
            obtain ⟨q1, q2, c0, c1, c2, c3, c4⟩ := id hbx2
            have hbx3 := hbx2.grown (grown_set w2 ⟨gb, j * 2 + 1, none⟩ (.int .i64 (ak : Int))) (show w.heap.size < gb from by omega)
            obtain ⟨q1, q2, d0, d1, d2, d3, d4⟩ := id hbx3
            go_wp2_with fail
            go_roundg (k.procs.length - (j + 1))
            case measure => omega
            case rel => exact ⟨j + 1, hs.set j ak, true, by omega, rfl, by go_num, rfl, ho3, HS2.out, HP2.out, hbx3⟩
        · obtain rfl : j = k.procs.length := by omega
          go_wp2_with fail
          go_roundg (2 * hs.sum + (if nw then 1 else 0))
          case measure =>
            cases nw
            · rw [(HP.out.no rfl).1]; simp
            · have := HP.out.yes rfl; simp; omega
          case rel => exact ⟨hs, nw, rfl, rfl, ho, HS.out, fun hf => by rw [(HP.out.no hf).1]; exact (HP.out.no hf).2, hbxr⟩
end Go.Proofs.YtkgoajnnkimkaaaGreat
namespace Go.Proofs.YtkgoajnnkimkaaaGreat
open Go.ChangeShapes Go.WideShapes Go.ChangeAt Go.RowKit

/-- The row on its way to its first numbers. -/
structure FillE (k : Cd) (j : Nat) (xs : List Nat) : Prop where
  len : xs.length = k.procs.length
  done : ∀ q, q < j → gt xs q = gt (ent0 k k.procs.length) q
  rest : ∀ q, j ≤ q → gt xs q = 0
theorem FillE.root {k : Cd} {j : Nat} {xs : List Nat} (h : FillE k j xs) (hj : j < k.procs.length) (hr : RootP k j) : FillE k (j + 1) xs := by
  refine ⟨h.len, fun q hq => ?_, fun q hq => h.rest q (by omega)⟩
  rcases Nat.lt_or_ge q j with h1 | h1
  · exact h.done q h1
  · obtain rfl : q = j := by omega
    rw [h.rest q (Nat.le_refl _), ent0_get hj, if_pos hr]
theorem FillE.other {k : Cd} {j : Nat} {xs : List Nat} (h : FillE k j xs) (hj : j < k.procs.length) (hr : ¬ RootP k j) : FillE k (j + 1) (xs.set j 63) := by
  refine ⟨by simp [h.len], fun q hq => ?_, fun q hq => ?_⟩
  · rw [gt_set (by rw [h.len]; exact hj)]
    split
    · rename_i e; subst e; rw [ent0_get hj, if_neg hr]
    · exact h.done q (by omega)
  · rw [gt_set (by rw [h.len]; exact hj), if_neg (by omega)]
    exact h.rest q (by omega)
theorem FillE.full {k : Cd} {xs : List Nat} (h : FillE k k.procs.length xs) : xs = ent0 k k.procs.length :=
  gt_ext (by rw [h.len, ent0_len]) fun q hq => h.done q (by rw [← h.len]; exact hq)
end Go.Proofs.YtkgoajnnkimkaaaGreat
namespace Go.Proofs.YtkgoajnnkimkaaaGreat
open Go.ChangeShapes Go.WideShapes Go.ChangeAt Go.RowKit

/-- The row on its way: places that are done, places that are as they were. -/
structure Mu (k : Cd) (es : List (Int × Int)) (bs : List Nat) (D R : Nat → Prop) (ys : List Nat) : Prop where
  len : ys.length = k.ins.length
  done : ∀ a, a < k.ins.length → D a → gt ys a = mustF k es bs a
  rest : ∀ a, a < k.ins.length → R a → gt ys a = 63
section
variable {k : Cd} {es : List (Int × Int)} {bs ys : List Nat} {D R D' R' : Nat → Prop}
theorem Mu.mono (h : Mu k es bs D R ys) (hd : ∀ a, a < k.ins.length → D' a → D a) (hr : ∀ a, a < k.ins.length → R' a → R a) : Mu k es bs D' R' ys :=
  ⟨h.len, fun a ha hD => h.done a ha (hd a ha hD), fun a ha hR => h.rest a ha (hr a ha hR)⟩
theorem Mu.put (h : Mu k es bs D R ys) {i y : Nat} (hi : i < k.ins.length) (hy : y = mustF k es bs i) (hd : ∀ a, a < k.ins.length → D' a → a = i ∨ D a) (hr : ∀ a, a < k.ins.length → R' a → a ≠ i ∧ R a) : Mu k es bs D' R' (ys.set i y) := by
  refine ⟨by simp [h.len], fun a ha hD => ?_, fun a ha hR => ?_⟩
  · rw [gt_set (by rw [h.len]; exact hi)]
    split
    · rename_i e; subst e; exact hy
    · rename_i e
      rcases hd a ha hD with h1 | h1
      · exact absurd h1.symm e
      · exact h.done a ha h1
  · rw [gt_set (by rw [h.len]; exact hi), if_neg (fun e => (hr a ha hR).1 e.symm)]
    exact h.rest a ha (hr a ha hR).2
theorem Mu.full (h : Mu k es bs D R ys) (hr : ∀ a, a < k.ins.length → D a ∨ (R a ∧ ¬ UsedP k (procN k a))) : ys = (List.range k.ins.length).map fun a => mustF k es bs a := by
  refine gt_ext (by simp [h.len]) fun a ha => ?_
  rw [h.len] at ha
  rw [show gt ((List.range k.ins.length).map fun a => mustF k es bs a) a = mustF k es bs a from by simp [gt, ha]]
  rcases hr a ha with h1 | ⟨h1, h2⟩
  · exact h.done a ha h1
  · rw [h.rest a ha h1, mustF, if_neg h2]
end

end Go.Proofs.YtkgoajnnkimkaaaGreat
namespace Go.Proofs.YtkgoajnnkimkaaaGreat
open Go.ChangeShapes Go.WideShapes Go.ChangeAt Go.RowKit

/-- The table in right code, else nothing. -/
noncomputable def codeE (k : Cd) (es : List (Int × Int)) : List (Int × Int) := if codeOkI k = true then es else []
theorem codeE_no {k : Cd} {es : List (Int × Int)} (h : codeOkI k = false) : codeE k es = [] := by rw [codeE, if_neg (by rw [h]; simp)]
theorem codeE_yes {k : Cd} {es : List (Int × Int)} (h : codeOkI k = true) : codeE k es = es := by rw [codeE, if_pos h]
theorem NewEff.more {w w1 : World} {es fs : List (Int × Int)} {e : Ending} {w' : World} (h : NewEff w1 es e w') (hb : Below w.heap.size w w1) (he : fs = es) : NewEff w fs e w' := by
  subst he
  obtain ⟨A, c, e1, ho, hb1⟩ := h
  exact ⟨A, c, e1, own_mono ho hb.size, below_trans' hb hb1⟩

set_option maxHeartbeats 1000000 in
theorem effectsOf_i {B L : Nat} (v : CV) (k : Cd) (w : World) (hk : CodeAt w B v k) (hcb : CdB L k) (hL : L ≤ 1048576) :
    Calls Tryz.prog 13 #[.agg #[.slice v.gA k.globals.length v.gc, .slice v.lA k.locks.length v.lc, .slice v.pA k.procs.length v.pc, .slice v.eA k.entry.length v.ec, .slice v.iA k.ins.length v.ic]] w (NewEff w (codeE k (effN k))) := by
  have hkf := hk.full
  have hbx := codeBox w v k
  have hpl0 := hcb.procs
  have hil0 := hcb.ins
  cases hok : codeOkI k
  · have HW := Lib.hid (fun W (h : CodeAt W w.heap.size v k) => worldOf_no v k W h hcb (by omega) hok)
    have HZ := Lib.hid (show ∀ w', Below w.heap.size w w' → NewEff w (codeE k (effN k)) (.returned (.slice none 0 0)) w' from fun w' h => by rw [codeE_no hok]; exact ⟨none, 0, rfl, World.ownsRow_nil _ _ _ _, h⟩)
    clear hok hcb hk
    go_enter Tryz.func13, Tryz.ntmps13
    go_wp2_with fail
    generalize w.alloc (.cells #[.slice v.gA k.globals.length v.gc, .slice v.lA k.locks.length v.lc, .slice v.pA k.procs.length v.pc, .slice v.eA k.entry.length v.ec, .slice v.iA k.ins.length v.ic] 28) = W at hbx ⊢
    refine (HW.out _ (hkf.below hbx.1)).mono ?_
    rintro e w1 ⟨rfl, hb1⟩
    go_wp2_with fail
    go_ret
    exact HZ.out _ (below_trans' hbx.1 hb1)
  · have HR := Lib.hid (right_of hok)
    have HW := Lib.hid (fun W (h : CodeAt W w.heap.size v k) => worldOf_yes v k W h hcb (by omega) hok)
    have HY := Lib.hid (codeE_yes (es := effN k) hok)
    clear hok hcb hk
    go_enter Tryz.func13, Tryz.ntmps13
    go_wp2_with fail
    generalize w.alloc (.cells #[.slice v.gA k.globals.length v.gc, .slice v.lA k.locks.length v.lc, .slice v.pA k.procs.length v.pc, .slice v.eA k.entry.length v.ec, .slice v.iA k.ins.length v.ic] 28) = W at hbx ⊢
    refine (HW.out _ (hkf.below hbx.1)).mono ?_
    rintro e w2 ⟨g, rfl, hgl, hW2, hb1⟩
    have hbx2 := hbx.to hb1
    have hb02 := hbx2.1
    clear hbx hb1
    have HC := Lib.hid (effects_any g v k w2 HR.out hW2)
    go_wp2_with fail
    refine HC.out.mono ?_
    rintro e w3 ⟨⟨A3, c3', rfl, ho3, hb3⟩, _⟩
    go_wp2_with fail
    go_ret
    exact NewEff.more ⟨A3, c3', rfl, ho3, hb3⟩ hb02 HY.out

set_option maxHeartbeats 1000000 in
theorem effectsOf_s {B L : Nat} (v : CV) (k : Cd) (w : World) (hk : CodeAt w B v k) (hcb : CdB L k) (hL : L ≤ 1048576) :
    Calls Tryz.prog 14 #[.agg #[.slice v.gA k.globals.length v.gc, .slice v.lA k.locks.length v.lc, .slice v.pA k.procs.length v.pc, .slice v.eA k.entry.length v.ec, .slice v.iA k.ins.length v.ic]] w (NewEff w (codeE k (effN k))) := by
  have hkf := hk.full
  have hbx := codeBox w v k
  have hpl0 := hcb.procs
  have hil0 := hcb.ins
  have HG := Lib.hid (fun W (h : CodeAt W w.heap.size v k) => codeOk_sI v k W h hcb (by omega))
  cases hok : codeOkI k
  · have HZ := Lib.hid (show ∀ W, Below w.heap.size w W → NewEff w (codeE k (effN k)) (.returned (.slice (some ⟨W.heap.size, 0, none⟩) 0 0)) (W.alloc (.cells #[] 39)) from fun W h => by rw [codeE_no hok]; exact ⟨_, _, rfl, World.ownsRow_lit _ #[] 0 h.size (by simp) rfl, below_alloc h (Nat.le_refl _) _⟩)
    rw [hok] at HG
    clear hok hcb hk
    go_enter Tryz.func14, Tryz.ntmps14
    go_wp2_with fail
    generalize w.alloc (.cells #[.slice v.gA k.globals.length v.gc, .slice v.lA k.locks.length v.lc, .slice v.pA k.procs.length v.pc, .slice v.eA k.entry.length v.ec, .slice v.iA k.ins.length v.ic] 28) = W at hbx ⊢
    refine (HG.out _ (hkf.below hbx.1)).mono ?_
    rintro e w1 ⟨rfl, hb1⟩
    go_wp2_with fail
    go_ret
    exact HZ.out _ (below_trans' hbx.1 hb1)
  · rw [hok] at HG
    have hok1 : codeOkI k = true := hok
    have HR := Lib.hid (right_of hok1)
    have HY := Lib.hid (codeE_yes (es := effN k) hok1)
    have HCB := Lib.hid hcb
    clear hok hok1 hcb hk
    go_enter Tryz.func14, Tryz.ntmps14
    go_wp2_with fail
    generalize w.alloc (.cells #[.slice v.gA k.globals.length v.gc, .slice v.lA k.locks.length v.lc, .slice v.pA k.procs.length v.pc, .slice v.eA k.entry.length v.ec, .slice v.iA k.ins.length v.ic] 28) = W at hbx ⊢
    refine (HG.out _ (hkf.below hbx.1)).mono ?_
    rintro e w2 ⟨rfl, hb2⟩
    have hbx2 := hbx.to hb2
    clear hbx hb2
    have hk2 := hkf.below hbx2.1
    have hb02 := hbx2.1
    obtain ⟨_, _, c0, c1, c2, c3, c4⟩ := id hbx2
    have HC := Lib.hid (l13Effects_any v k w2 HR.out hk2 HCB.out hL)
    go_wp2_with fail
    refine HC.out.mono ?_
    rintro e w3 ⟨⟨A3, c3', rfl, ho3, hb3⟩, _⟩
    go_wp2_with fail
    go_ret
    exact NewEff.more ⟨A3, c3', rfl, ho3, hb3⟩ hb02 HY.out
end Go.Proofs.YtkgoajnnkimkaaaGreat
namespace Go.Proofs.YtkgoajnnkimkaaaGreat
open Go.ChangeShapes Go.WideShapes Go.ChangeAt Go.RowKit

theorem cells_byte : Tryz.prog.cellsOf 5 = 1 := by kernel_rfl
theorem u8_of_wf {n : Int} (h : (Lit.int .u8 n).wf = true) : 0 ≤ n ∧ n ≤ 255 := by
  simp [Lit.wf, IntKind.min, IntKind.max, IntKind.bits, IntKind.signed] at h
  omega
section
variable {H : Type} {enc : TypeId × Value → H} {W : World} {sp : Nat → Bool} {held : Bool}
theorem rd_bytes {fuel : Nat} {cs : List Value} {x : DataW H × List MemPlace} (h : DataW.trod enc Tryz.prog W 0 sp held fuel 22 cs = some x) :
    ∃ (A : Option Addr) (c : Nat) (b : List UInt8), cs = [.slice A b.length c] ∧ Rd W W.heap.size A (bytesV b) ∧ b.length ≤ 9223372036854775807 := by
  rcases open_ints Tryz.underlying22 Tryz.underlying5 cells_byte h with ⟨rfl, rfl⟩ | ⟨a, len, cap, zs, rfl, _, hlc, hcm, hzl, rfl, hcell, hwf⟩
  · exact ⟨none, 0, [], rfl, Rd.nil, by simp⟩
  · have hle : len ≤ zs.length := by rw [hzl]; split <;> omega
    unfold maxLen at hcm
    refine ⟨some a, cap, (zs.take len).map fun n => UInt8.ofNat n.toNat, by simp [Nat.min_eq_left hle], ?_, by simp; omega⟩
    intro j u hu
    simp only [bytesV, List.getElem?_map, List.getElem?_take] at hu
    by_cases hj : j < len
    · rw [if_pos hj, List.getElem?_eq_getElem (by omega)] at hu
      simp only [Option.map_some, Option.some.injEq] at hu
      subst hu
      have hc := hcell j (by omega)
      rw [List.getD_eq_getElem?_getD, List.getElem?_eq_getElem (by omega)] at hc
      have hb := World.block_lt_of_cell? W _ hc
      rw [block_of_add] at hb
      have hw := u8_of_wf (hwf zs[j] (List.getElem_mem (by omega)))
      refine ⟨a, rfl, hb, ?_⟩
      rw [hc]
      simp only [Option.getD_some]
      congr 2
      rw [UInt8.toNat_ofNat']
      omega
    · rw [if_neg hj] at hu
      simp at hu
end
theorem big_any {b : List UInt8} (A : Option Addr) (c : Nat) (w : World) (hn : b.length ≤ 9223372036854775807) :
    Calls Tryz.prog 11 #[.slice A b.length c] w fun e w' => e = .returned (.bool (decide (1048576 < b.length))) ∧ w' = w := by
  go_enter Tryz.func11, Tryz.ntmps11
  go_wp2_with fail
  go_ret
  exact ⟨ret_bool (decide_eq_decide.2 (by omega)), rfl⟩
end Go.Proofs.YtkgoajnnkimkaaaGreat
namespace Go.Proofs.YtkgoajnnkimkaaaGreat
open Go.ChangeShapes Go.WideShapes Go.ChangeAt Go.RowKit

theorem below_drew0 (w : World) : Below w.heap.size w w.drew := (Below.refl _ _).drew
/-- Two codes alike, boxed in blocks gk and gs. -/
structure LB (w : World) (k : Cd) (gk gs : Nat) (v u : CV) (W : World) : Prop where
  low : Below w.heap.size w W
  kk : KAt W gk v k
  ks : KAt W gs u k
  ck : CodeAt W W.heap.size v k
  cs : CodeAt W W.heap.size u k
theorem LB.to {w W W' : World} {k : Cd} {gk gs : Nat} {v u : CV} (h : LB w k gk gs v u W) (hb : Below W.heap.size W W') : LB w k gk gs v u W' :=
  ⟨below_trans' h.low hb, h.kk.to hb, h.ks.to hb, (h.ck.below hb).full, (h.cs.below hb).full⟩
theorem LB.drew {w W : World} {k : Cd} {gk gs : Nat} {v u : CV} (h : LB w k gk gs v u W) : LB w k gk gs v u W.drew := h.to (below_drew0 W)
/-- Two codes, and rows of numbers that are read. -/
structure LS (w : World) (k : Cd) (gk gs : Nat) (v u : CV) (rows : List (Option Addr × List Nat)) (W : World) : Prop where
  lb : LB w k gk gs v u W
  rd : ∀ p ∈ rows, Rd W W.heap.size p.1 (nv p.2)
section
variable {w W W' : World} {k : Cd} {gk gs : Nat} {v u : CV} {rows : List (Option Addr × List Nat)}
theorem LS.to (h : LS w k gk gs v u rows W) (hb : Below W.heap.size W W') : LS w k gk gs v u rows W' := ⟨h.lb.to hb, fun p hp => ((h.rd p hp).below hb).full⟩
theorem LS.drew (h : LS w k gk gs v u rows W) : LS w k gk gs v u rows W.drew := h.to (below_drew0 W)
theorem LS.add {A : Option Addr} {xs : List Nat} (h : LS w k gk gs v u rows W) (hr : Rd W W.heap.size A (nv xs)) : LS w k gk gs v u ((A, xs) :: rows) W :=
  ⟨h.lb, fun p hp => by rcases List.mem_cons.1 hp with rfl | hp; exact hr; exact h.rd p hp⟩
theorem LB.ls (h : LB w k gk gs v u W) : LS w k gk gs v u [] W := ⟨h, fun p hp => by simp at hp⟩
theorem LS.at_ {ad : Addr} {xs : List Nat} (h : LS w k gk gs v u rows W) (hm : (some ad, xs) ∈ rows) {j : Nat} (hj : j < xs.length) : W.cell? (ad.add j) = some (.int .i64 (xs[j] : Int)) := by
  obtain ⟨ad', e, _, hc⟩ := (h.rd _ hm).nat hj
  injection e with e
  rw [e]; exact hc
theorem LS.some_ {A : Option Addr} {xs : List Nat} (h : LS w k gk gs v u rows W) (hm : (A, xs) ∈ rows) (hj : 0 < xs.length) : ∃ ad, A = some ad := by
  obtain ⟨ad', e, _, hc⟩ := (h.rd _ hm).nat hj
  exact ⟨ad', e⟩
end
end Go.Proofs.YtkgoajnnkimkaaaGreat
namespace Go.Proofs.YtkgoajnnkimkaaaGreat
open Go.ChangeShapes Go.WideShapes Go.ChangeAt Go.RowKit

theorem l01In_yes (a b c : Int) (w : World) (h1 : b ≤ a) (h2 : a ≤ c) : Calls Tryz.prog 92 #[.int .i64 a, .int .i64 b, .int .i64 c] w fun e w' => e = .returned (.bool true) ∧ w' = w :=
  (l01In_any a b c w).mono fun e w' h => ⟨by rw [h.1]; simp [h1, h2], h.2.symm⟩
set_option maxRecDepth 100000 in
/-- EndOf of the reference. -/
theorem endOf_s {B L : Nat} (v : CV) (k : Cd) (p : Nat) (w : World) (hk : CodeAt w B v k) (hcb : CdB L k) (hL : L ≤ 1048576) (hok : codeOkI k = true) (hp : p < k.procs.length) :
    Calls Tryz.prog 18 #[.agg #[.slice v.gA k.globals.length v.gc, .slice v.lA k.locks.length v.lc, .slice v.pA k.procs.length v.pc, .slice v.eA k.entry.length v.ec, .slice v.iA k.ins.length v.ic], .int .i64 (p : Int)] w fun e w' => e = .returned (.int .i64 ((fin k p - 1 : Nat) : Int)) ∧ Below w.heap.size w w' := by
  have hr := right_of hok
  have h1 := hcb.entry
  have h2 := hcb.ins
  have h3 := hcb.procs
  have HC := Lib.hid (fun W (h : CodeAt W W.heap.size v k) => (show Calls Tryz.prog 84 #[.agg #[.slice v.gA k.globals.length v.gc, .slice v.lA k.locks.length v.lc, .slice v.pA k.procs.length v.pc, .slice v.eA k.entry.length v.ec, .slice v.iA k.ins.length v.ic]] W fun e w' => e = .returned (.bool true) ∧ Below W.heap.size W w' from by
    have := codeOk_sI v k W h hcb (by omega)
    rwa [hok] at this))
  have HP := Lib.hid (fun W (h : CodeAt W W.heap.size v k) => l08End_right v k p W hr h hcb (by omega) hp)
  have HI := Lib.hid (fun W => l01In_yes (p : Int) 0 ((k.procs.length : Int) - 1) W (by omega) (by omega))
  have hbx := codeBox w v k
  have hkf := hk.full
  generalize fin k p - 1 = m at HP ⊢
  clear hcb hk hok hr
  go_enter Tryz.func18, Tryz.ntmps18
  go_wp2_with fail
  generalize w.alloc (.cells #[.slice v.gA k.globals.length v.gc, .slice v.lA k.locks.length v.lc, .slice v.pA k.procs.length v.pc, .slice v.eA k.entry.length v.ec, .slice v.iA k.ins.length v.ic] 28) = W at hbx ⊢
  refine (HC.out _ (hkf.below hbx.1).full).mono ?_
  rintro r w1 ⟨rfl, hb1⟩
  have bx1 := hbx.to hb1
  obtain ⟨hbw, hsz, c0, c1, c2, c3, c4⟩ := id bx1
  clear hb1 hbx
  go_wp2_with fail
  refine (HI.out _).mono ?_
  rintro r w2 ⟨rfl, rfl⟩
  go_wp2_with fail
  refine (HP.out _ (hkf.below bx1.1).full).mono ?_
  rintro r w3 ⟨rfl, hb3⟩
  go_wp2_with fail
  go_ret
  exact ⟨rfl, below_trans' hbw hb3⟩
theorem add_0 (ad : Addr) : ad.add 0 = ad := by simp [Addr.add]
end Go.Proofs.YtkgoajnnkimkaaaGreat
namespace Go.Proofs.YtkgoajnnkimkaaaGreat
open Go.RowKit

theorem bit63 (b : Nat) : (63 : Nat).testBit b = decide (b < 6) := by
  have e : (63 : Nat) = 2 ^ 6 - 1 := by decide
  rw [e, Nat.testBit_two_pow_sub_one]
theorem kp_bit {k : Cd} {b : Nat} : ∀ (l : List Nat) (s : Nat), s < 64 → (∀ a ∈ l, opN k a = 7 → argN k a < 6) → ((kp k s l).testBit b = true ↔ s.testBit b = true ∧ ∀ a ∈ l, opN k a = 7 → argN k a ≠ b) := by
  intro l
  induction l with
  | nil => intro s _ _; simp [kp]
  | cons a r ih =>
    intro s hs h6
    have e : kp k s (a :: r) = kp k (if opN k a = 7 then andNot s (2 ^ argN k a) else s) r := rfl
    rw [e]
    have h6' : ∀ x ∈ r, opN k x = 7 → argN k x < 6 := fun x hx => h6 x (by simp [hx])
    by_cases h7 : opN k a = 7
    · have h := h6 a (by simp) h7
      have h2 := two_pow_lt (argN k a) (by omega)
      rw [if_pos h7, ih _ (Nat.lt_of_le_of_lt (andNot_le _ _) hs) h6', testBit_andNot _ _ _ (by omega) h2, Nat.testBit_two_pow, Bool.and_eq_true]
      constructor
      · rintro ⟨⟨q1, q2⟩, q3⟩
        refine ⟨q1, fun x hx => ?_⟩
        rcases List.mem_cons.1 hx with rfl | hx
        · intro _ e2
          rw [e2] at q2
          simp at q2
        · exact q3 x hx
      · rintro ⟨q1, q2⟩
        exact ⟨⟨q1, by simpa using q2 a (by simp) h7⟩, fun x hx => q2 x (by simp [hx])⟩
    · rw [if_neg h7, ih _ hs h6']
      constructor
      · rintro ⟨q1, q2⟩
        refine ⟨q1, fun x hx => ?_⟩
        rcases List.mem_cons.1 hx with rfl | hx
        · intro h; exact absurd h h7
        · exact q2 x hx
      · rintro ⟨q1, q2⟩
        exact ⟨q1, fun x hx => q2 x (by simp [hx])⟩
theorem mem_places {k : Cd} {ps : List Nat} {a : Nat} : a ∈ placesL k ps ↔ ∃ q ∈ ps, a < k.ins.length ∧ LiveP k q a := by
  unfold placesL
  rw [List.mem_flatMap]
  exact ⟨fun ⟨q, h1, h2⟩ => ⟨q, h1, mem_listN.1 h2⟩, fun ⟨q, h1, h2⟩ => ⟨q, h1, mem_listN.2 h2⟩⟩
/-- A lock is kept where nothing that may be called unlocks it. -/
theorem keep_bit {k : Cd} (hr : Right k) {p b : Nat} (hp : p < k.procs.length) : (keepN k p).testBit b = true ↔ b < 6 ∧ ∀ q a, FromP k p q → LiveP k q a → opN k a = 7 → argN k a ≠ b := by
  unfold keepN
  rw [kp_bit _ _ (by omega) (fun a ha h7 => by
    obtain ⟨q, h1, h2, h3⟩ := mem_places.1 ha
    exact arg6 hr h2 h7), bit63, decide_eq_true_eq]
  refine and_congr_right fun _ => ⟨fun h q a hq ha => ?_, fun h a ha => ?_⟩
  · have hql := from_lt hp hq
    exact h a (mem_places.2 ⟨q, mem_listN.2 ⟨hql, hq⟩, (live_in hr hql ha).1, ha⟩)
  · obtain ⟨q, h1, h2, h3⟩ := mem_places.1 ha
    exact h q a (mem_listN.1 h1).2 h3
theorem keep_call {k : Cd} (hr : Right k) {p a b : Nat} (hp : p < k.procs.length) (ha : LiveP k p a) (h4 : opN k a = 4) (hb : (keepN k p).testBit b = true) : (keepN k (argN k a)).testBit b = true := by
  have hal := (live_in hr hp ha).1
  have hq := argN_lt hr hal (.inl h4)
  rw [keep_bit hr hp] at hb
  rw [keep_bit hr hq]
  exact ⟨hb.1, fun q x hq2 hx => hb.2 q x (Comes.trans (Comes.step (Comes.refl _ _) (mem_listN.2 ⟨hq, a, ha, h4, rfl⟩)) hq2) hx⟩

/- There is a greatest table, and a greatest entry. -/
theorem eff_ex {k : Cd} (hr : Right k) : ∀ (n : Nat) (gs : List Nat), gs.sum = n → EffS k gs → ∃ hs, EffS k hs ∧ ∀ p, p < k.procs.length → asked k hs p = gt hs p := by
  intro n
  induction n using Nat.strongRecOn with
  | ind n ih =>
    intro gs hn hs
    by_cases h : ∀ p, p < k.procs.length → asked k gs p = gt gs p
    · exact ⟨gs, hs, h⟩
    · simp only [Classical.not_forall] at h
      obtain ⟨p, hp, hne⟩ := h
      refine ih _ ?_ _ rfl (hs.step hr hp)
      rw [← hn]
      exact sum_set_lt (by rw [hs.len]; exact hp) (by have := sub_le (hs.down p hp); omega)
theorem gen_fix {k : Cd} (hr : Right k) : EffS k (genN k) ∧ ∀ p, p < k.procs.length → asked k (genN k) p = gt (genN k) p := by
  obtain ⟨hs, h1, h2⟩ := eff_ex hr _ _ rfl (effS0 hr)
  have e := h1.stop h2
  rw [← e]
  exact ⟨h1, h2⟩
theorem keepAt_effN {k : Cd} {q : Nat} (hq : q < k.procs.length) : keepAt (effN k) q = keepN k q := by
  simp [keepAt, effN, effL, hq]
theorem asked_gen {k : Cd} (hr : Right k) {p : Nat} (hp : p < k.procs.length) : gt (flowN k (effN k) p 0) (fin k p - 1) = gt (genN k) p := (gen_fix hr).2 p hp

/-- What is held ahead and kept, and what is locked, is held behind. -/
theorem eff_more {k : Cd} (hr : Right k) {p held : Nat} (hp : p < k.procs.length) (hh : held < 64) : Sub ((held &&& keepN k p) ||| gt (genN k) p) (gt (flowN k (effN k) p held) (fin k p - 1)) := by
  have F := (flowN_is (es := effN k) (held := 0) hr hp).sol
  have hfl : fin k p - 1 < k.ins.length := by have := hr.lt p hp; omega
  have hkl := keepN_lt k p
  have hy : ∀ i, i < k.ins.length → gt ((List.range k.ins.length).map fun i => gt (flowN k (effN k) p 0) i ||| (held &&& keepN k p)) i = gt (flowN k (effN k) p 0) i ||| (held &&& keepN k p) := fun i hi => by simp [gt, hi]
  have hlt : ∀ i, gt (flowN k (effN k) p 0) i ||| (held &&& keepN k p) < 64 := fun i => by
    have h1 := F.le i
    have h2 : held &&& keepN k p < 64 := Nat.lt_of_le_of_lt Nat.and_le_left hh
    exact Nat.or_lt_two_pow (n := 6) h1 h2
  have S : FlowSol k (effN k) p held ((List.range k.ins.length).map fun i => gt (flowN k (effN k) p 0) i ||| (held &&& keepN k p)) := by
    refine ⟨by simp, fun i => ?_, ?_, fun a n ha hn => ?_⟩
    · rcases Nat.lt_or_ge i k.ins.length with h | h
      · rw [hy i h]; exact hlt i
      · rw [gt_none (by simpa using h)]; omega
    · rw [hy _ (ent_lt hr hp)]
      exact or_sub (F.begin.trans (fun i hi => by simp at hi)) (and_sub_left _ _)
    · have hal := (live_in hr hp ha).1
      rw [hy n (nextL_in hr hal hn).1, hy a hal]
      refine or_sub ((F.next a n ha hn).trans (movedV_mono (sub_or_left _ _) (F.le a) (hlt a) (fun h7 => arg6 hr hal h7))) ?_
      intro b hb
      have hbk : (keepN k p).testBit b = true := and_sub_right _ _ b hb
      have hba := sub_or_right (gt (flowN k (effN k) p 0) a) (held &&& keepN k p) b hb
      unfold movedV
      by_cases h6 : opN k a = 6
      · rw [if_pos h6, Nat.testBit_or, hba]; rfl
      · rw [if_neg h6]
        by_cases h7 : opN k a = 7
        · have h2 := two_pow_lt (argN k a) (by have := arg6 hr hal h7; omega)
          rw [if_pos h7, testBit_andNot _ _ _ (by have := hlt a; omega) h2, hba, Nat.testBit_two_pow]
          have := ((keep_bit hr hp).1 hbk).2 p a (Comes.refl _ _) ha h7
          simp [this]
        · rw [if_neg h7]
          by_cases h4 : opN k a = 4
          · rw [if_pos h4, Nat.testBit_or, Nat.testBit_and, hba, keepAt_effN (argN_lt hr hal (.inl h4)), keep_call hr hp ha h4 hbk]
            rfl
          · rw [if_neg h4]; exact hba
  have h1 := ((flowN_is (es := effN k) hr hp).top _ S).2 (fin k p - 1)
  rw [hy _ hfl, asked_gen hr hp] at h1
  exact or_sub ((sub_or_right _ _).trans h1) ((sub_or_left _ _).trans h1)
end Go.Proofs.YtkgoajnnkimkaaaGreat
namespace Go.Proofs.YtkgoajnnkimkaaaGreat
open Go.ChangeShapes Go.WideShapes Go.ChangeAt Go.RowKit

/-- What FromEntry answers. -/
noncomputable def fromL (k : Cd) (es : List (Int × Int)) (p h : Int) : List Nat :=
  if codeOkI k = true ∧ (decide (0 ≤ p) && decide (p < k.procs.length)) = true ∧ isSetB h = true ∧ tabB k.procs.length es = true then flowN k es p.toNat h.toNat else []
theorem fromL_no {k : Cd} {es : List (Int × Int)} {p h : Int} (hn : codeOkI k = false ∨ (decide (0 ≤ p) && decide (p < k.procs.length)) = false ∨ isSetB h = false ∨ tabB k.procs.length es = false) : fromL k es p h = [] := by
  rw [fromL, if_neg]
  rintro ⟨h1, h2, h3, h4⟩
  rcases hn with e | e | e | e
  · rw [h1] at e; simp at e
  · rw [h2] at e; simp at e
  · rw [h3] at e; simp at e
  · rw [h4] at e; simp at e
theorem fromL_yes {k : Cd} {es : List (Int × Int)} {p h : Nat} (h1 : codeOkI k = true) (h2 : p < k.procs.length) (h3 : isSetB (h : Int) = true) (h4 : tabB k.procs.length es = true) : fromL k es p h = flowN k es p h := by
  rw [fromL, if_pos ⟨h1, by simp; exact h2, h3, h4⟩, Int.toNat_natCast, Int.toNat_natCast]
set_option maxHeartbeats 4000000 in
theorem fromEntry_i {B B' L : Nat} (v : CV) (k : Cd) (A : Option Addr) (c : Nat) (es : List (Int × Int)) (p_ held : Int) (w : World) (hk : CodeAt w B v k) (hcb : CdB L k) (hL : L ≤ 1048576) (he : Rd w B' A (effCells es)) (hn : es.length ≤ 1048576) :
    Calls Tryz.prog 17 #[.agg #[.slice v.gA k.globals.length v.gc, .slice v.lA k.locks.length v.lc, .slice v.pA k.procs.length v.pc, .slice v.eA k.entry.length v.ec, .slice v.iA k.ins.length v.ic], .slice A es.length c, .int .i64 p_, .int .i64 held] w (NewNats w (fromL k es p_ held)) := by
  have hkf := hk.full
  have hef := he.full
  have hbx := codeBox w v k
  have hpl0 := hcb.procs
  have hil0 := hcb.ins
  have HN := Lib.hid (fun h => fromL_no (k := k) (es := es) (p := p_) (h := held) h)
  have hx1 : ∀ b, (decide (0 ≤ p_) && decide (p_ < k.procs.length)) = b → b = true → ∃ n : Nat, p_ = n ∧ n < k.procs.length := fun b h1 h2 => by
    rw [h2] at h1
    simp only [Bool.and_eq_true, decide_eq_true_eq] at h1
    exact ⟨p_.toNat, by omega, by omega⟩
  have hx2 : ∀ b, isSetB held = b → b = true → ∃ n : Nat, held = n ∧ n < 64 := fun b h1 h2 => isSetB_nat (h1.trans h2)
  have HS := Lib.hid (fun W => isSet_any held W)
  have HE := Lib.hid (fun W (h : Rd W w.heap.size A (effCells es)) => effectsRight_any A c k.procs.length es W h hn (by omega))
  cases hok : codeOkI k
  · have HW := Lib.hid (fun W (h : CodeAt W w.heap.size v k) => worldOf_no v k W h hcb (by omega) hok)
    have HZ := Lib.hid (HN.out (.inl hok))
    clear hok hcb hk he hx1 hx2
    go_enter Tryz.func17, Tryz.ntmps17
    go_wp2_with fail
    generalize w.alloc (.cells #[.slice v.gA k.globals.length v.gc, .slice v.lA k.locks.length v.lc, .slice v.pA k.procs.length v.pc, .slice v.eA k.entry.length v.ec, .slice v.iA k.ins.length v.ic] 28) = W at hbx ⊢
    refine (HW.out _ (hkf.below hbx.1)).mono ?_
    rintro e w1 ⟨rfl, hb1⟩
    go_wp2_with fail
    go_ret
    exact newNil HZ.out (below_trans' hbx.1 hb1)
  · have HR := Lib.hid (right_of hok)
    have HOK := Lib.hid hok
    have HW := Lib.hid (fun W (h : CodeAt W w.heap.size v k) => worldOf_yes v k W h hcb (by omega) hok)
    have HIP := Lib.hid (fun g W (h : KAt W g v k) => isProc_any g v k p_ W h (by omega))
    cases hpl : (decide (0 ≤ p_) && decide (p_ < k.procs.length))
    · have HZ := Lib.hid (HN.out (.inr (.inl hpl)))
      rw [hpl] at HIP
      clear hok hcb hk he hx1 hx2 hpl
      go_enter Tryz.func17, Tryz.ntmps17
      go_wp2_with fail
      generalize w.alloc (.cells #[.slice v.gA k.globals.length v.gc, .slice v.lA k.locks.length v.lc, .slice v.pA k.procs.length v.pc, .slice v.eA k.entry.length v.ec, .slice v.iA k.ins.length v.ic] 28) = W at hbx ⊢
      refine (HW.out _ (hkf.below hbx.1)).mono ?_
      rintro e w1 ⟨g, rfl, hgl, hW, hb1⟩
      go_wp2_with fail
      refine (HIP.out g _ hW.kat).mono ?_
      rintro e w2 ⟨rfl, rfl⟩
      go_wp2_with fail
      go_ret
      exact newNil HZ.out (below_trans' hbx.1 hb1)
    · obtain ⟨n, rfl, hnl⟩ := hx1 _ hpl rfl
      rw [hpl] at HIP
      cases hst : isSetB held
      · have HZ := Lib.hid (HN.out (.inr (.inr (.inl hst))))
        rw [hst] at HS
        clear hok hcb hk he hx1 hx2 hpl hst
        go_enter Tryz.func17, Tryz.ntmps17
        go_wp2_with fail
        generalize w.alloc (.cells #[.slice v.gA k.globals.length v.gc, .slice v.lA k.locks.length v.lc, .slice v.pA k.procs.length v.pc, .slice v.eA k.entry.length v.ec, .slice v.iA k.ins.length v.ic] 28) = W at hbx ⊢
        refine (HW.out _ (hkf.below hbx.1)).mono ?_
        rintro e w1 ⟨g, rfl, hgl, hW, hb1⟩
        go_wp2_with fail
        refine (HIP.out g _ hW.kat).mono ?_
        rintro e w2 ⟨rfl, rfl⟩
        go_wp2_with fail
        refine (HS.out _).mono ?_
        rintro e w3 ⟨rfl, rfl⟩
        go_wp2_with fail
        go_ret
        exact newNil HZ.out (below_trans' hbx.1 hb1)
      · obtain ⟨hd, rfl, hdl⟩ := hx2 _ hst rfl
        rw [hst] at HS
        cases htb : tabB k.procs.length es
        · have HZ := Lib.hid (HN.out (.inr (.inr (.inr htb))))
          rw [htb] at HE
          clear hok hcb hk he hx1 hx2 hpl hst htb
          go_enter Tryz.func17, Tryz.ntmps17
          go_wp2_with fail
          generalize w.alloc (.cells #[.slice v.gA k.globals.length v.gc, .slice v.lA k.locks.length v.lc, .slice v.pA k.procs.length v.pc, .slice v.eA k.entry.length v.ec, .slice v.iA k.ins.length v.ic] 28) = W at hbx ⊢
          refine (HW.out _ (hkf.below hbx.1)).mono ?_
          rintro e w1 ⟨g, rfl, hgl, hW, hb1⟩
          have hbx1 := hbx.to hb1
          obtain ⟨q1, q2, c0, c1, c2, c3, c4⟩ := id hbx1
          go_wp2_with fail
          refine (HIP.out g _ hW.kat).mono ?_
          rintro e w2 ⟨rfl, rfl⟩
          go_wp2_with fail
          refine (HS.out _).mono ?_
          rintro e w3 ⟨rfl, rfl⟩
          go_wp2_with fail
          refine (HE.out _ (hef.below hbx1.1)).mono ?_
          rintro e w4 ⟨rfl, hb4⟩
          go_wp2_with fail
          go_ret
          exact newNil HZ.out (below_trans' hbx1.1 hb4)
        · rw [htb] at HE
          have HY := Lib.hid (fromL_yes hok hnl hst htb)
          obtain ⟨hes, hel⟩ := effs_keep htb
          have HES := Lib.hid hes
          have HEL := Lib.hid hel
          clear hok hcb hk he hx1 hx2 hpl hst htb hes hel
          go_enter Tryz.func17, Tryz.ntmps17
          go_wp2_with fail
          generalize w.alloc (.cells #[.slice v.gA k.globals.length v.gc, .slice v.lA k.locks.length v.lc, .slice v.pA k.procs.length v.pc, .slice v.eA k.entry.length v.ec, .slice v.iA k.ins.length v.ic] 28) = W at hbx ⊢
          refine (HW.out _ (hkf.below hbx.1)).mono ?_
          rintro e w1 ⟨g, rfl, hgl, hW, hb1⟩
          have hbx1 := hbx.to hb1
          obtain ⟨q1, q2, c0, c1, c2, c3, c4⟩ := id hbx1
          go_wp2_with fail
          refine (HIP.out g _ hW.kat).mono ?_
          rintro e w2 ⟨rfl, rfl⟩
          go_wp2_with fail
          refine (HS.out _).mono ?_
          rintro e w3 ⟨rfl, rfl⟩
          go_wp2_with fail
          refine (HE.out _ (hef.below hbx1.1)).mono ?_
          rintro e w4 ⟨rfl, hb4⟩
          have hW4 := hW.below hb4
          have HC := Lib.hid (flow_any g v k A c es n hd w4 HR.out hW4 (hef.below (below_trans' hbx1.1 hb4)) HES.out HEL.out hnl hdl)
          have hb04 := below_trans' hbx1.1 hb4
          clear c0 c1 c2 c3 c4 q1 q2 hbx hbx1 hb1 hb4
          go_wp2_with fail
          refine HC.out.mono ?_
          rintro e w5 ⟨A3, c3', rfl, ho3, hb3⟩
          go_wp2_with fail
          go_ret
          exact NewNats.more ⟨A3, c3', rfl, ho3, hb3⟩ hb04 HY.out

end Go.Proofs.YtkgoajnnkimkaaaGreat
namespace Go.Proofs.YtkgoajnnkimkaaaGreat
open Go.RowKit

theorem within_yes {a b : Nat} (ha : a < 64) (hb : b < 64) (h : Sub a b) : withinB (a : Int) (b : Int) = true := by
  have := and_of_sub h
  simp [withinB, isSetB_of_nat ha, isSetB_of_nat hb, this]
theorem both_nat {a b : Nat} (ha : a < 64) (hb : b < 64) : bothV (a : Int) (b : Int) = ((a &&& b : Nat) : Int) := by
  simp [bothV, isSetB_of_nat ha, isSetB_of_nat hb]
theorem either_nat {a b : Nat} (ha : a < 64) (hb : b < 64) : eitherV (a : Int) (b : Int) = ((a ||| b : Nat) : Int) := by
  simp [eitherV, isSetB_of_nat ha, isSetB_of_nat hb]
theorem effN_len (k : Cd) : (effN k).length = k.procs.length := effL_len k _
theorem effN_get {k : Cd} {p : Nat} (h : p < (effN k).length) : (effN k)[p] = (((keepN k p : Nat) : Int), ((gt (genN k) p : Nat) : Int)) := effL_get h
theorem gen_lt {k : Cd} (hr : Right k) (p : Nat) : gt (genN k) p < 64 := (gen_fix hr).1.le p
theorem effN_tab {k : Cd} (hr : Right k) : tabB k.procs.length (effN k) = true := by
  unfold tabB
  rw [Bool.and_eq_true, decide_eq_true_eq, List.all_eq_true]
  exact ⟨effN_len k, effL_ok fun i => gen_lt hr i⟩
theorem fromE_yes {k : Cd} (hok : codeOkI k = true) {p held : Nat} (hp : p < k.procs.length) (hh : held < 64) : fromL k (effN k) (p : Int) (held : Int) = flowN k (effN k) p held := by
  rw [fromL, if_pos ⟨hok, by simp; omega, isSetB_of_nat hh, effN_tab (right_of hok)⟩]
  simp
theorem fromE_zero {k : Cd} (hok : codeOkI k = true) {p : Nat} (hp : p < k.procs.length) : fromL k (effN k) (p : Int) 0 = flowN k (effN k) p 0 := fromE_yes hok hp (held := 0) (by omega)
theorem gt_row {xs : List Nat} {i : Nat} (h : i < xs.length) : gt xs i = xs[i] := by simp [gt, h]
theorem flow_within {k : Cd} (hr : Right k) {p held a : Nat} (hp : p < k.procs.length) (h1 : a < (flowN k (effN k) p 0).length) (h2 : a < (flowN k (effN k) p held).length) :
    withinB ((flowN k (effN k) p 0)[a] : Int) ((flowN k (effN k) p held)[a] : Int) = true := by
  have s := (flowN_held hr hp (es := effN k) (held := 0) (held' := held) (fun i hi => by simp at hi)).2 a
  have l1 := flowN_lt hr hp (es := effN k) (held := 0) a
  have l2 := flowN_lt hr hp (es := effN k) (held := held) a
  rw [gt_row h1] at s l1
  rw [gt_row h2] at s l2
  exact within_yes l1 l2 s
theorem flow_gen {k : Cd} (hr : Right k) {p : Nat} (hp : p < k.procs.length) (h1 : fin k p - 1 < (flowN k (effN k) p 0).length) : (flowN k (effN k) p 0)[fin k p - 1] = gt (genN k) p := by
  rw [← gt_row h1]
  exact asked_gen hr hp
theorem flow_more {k : Cd} (hr : Right k) {p held : Nat} (hp : p < k.procs.length) (hh : held < 64) (h1 : fin k p - 1 < (flowN k (effN k) p held).length) :
    withinB (((held &&& keepN k p) ||| gt (genN k) p : Nat) : Int) ((flowN k (effN k) p held)[fin k p - 1] : Int) = true := by
  have s := eff_more hr hp hh
  have l := flowN_lt hr hp (es := effN k) (held := held) (fin k p - 1)
  rw [gt_row h1] at s l
  have h2 : held &&& keepN k p < 64 := Nat.lt_of_le_of_lt Nat.and_le_left hh
  exact within_yes (Nat.or_lt_two_pow (n := 6) h2 (gen_lt hr p)) l s
theorem fin_lt {k : Cd} (hr : Right k) {p : Nat} (hp : p < k.procs.length) : fin k p - 1 < k.ins.length := by
  have := hr.lt p hp
  omega
end Go.Proofs.YtkgoajnnkimkaaaGreat
namespace Go.Proofs.YtkgoajnnkimkaaaGreat
open Go.ChangeShapes Go.WideShapes Go.ChangeAt Go.RowKit

theorem sameEffects_same {B B' : Nat} (A A' : Option Addr) (c d : Nat) (es : List (Int × Int)) (w : World) (ha : Rd w B A (effCells es)) (hb : Rd w B' A' (effCells es)) (hx : es.length ≤ 1048576) :
    Calls Tryz.prog 15 #[.slice A es.length c, .slice A' es.length d] w fun e w' => e = .returned (.bool true) ∧ Below w.heap.size w w' := by
  have hne : ((es.length : Int) != es.length) = false := by simp
  go_enter Tryz.func15, Tryz.ntmps15
  go_wp2
  go_loopw [5] (fun i wr => ∃ k : Nat, k ≤ es.length ∧ i = .int .i64 k ∧ ∃ n, wr = w.drewN n) (fun i _ => es.length - (intOf i).toNat)
  case atStart => exact ⟨0, Nat.zero_le _, rfl, 0, rfl⟩
  case round =>
    obtain ⟨k, hk, rfl, n, rfl⟩ := hrel
    by_cases hlt : k < es.length
    · obtain ⟨ad, rfl, _, k0, k1⟩ := ha.eff hlt
      obtain ⟨bd, rfl, _, l0, l1⟩ := hb.eff hlt
      have z1 : (0 : Int) ≤ (k : Int) := by omega
      have z2 : (k : Int) < (es.length : Int) := by omega
      have q1 : (es[k].1 == es[k].1) = true := by simp
      have q2 : (es[k].2 == es[k].2) = true := by simp
      go_wp2
      go_quiet (fail)
      go_wp2
      go_roundw
      case rel => exact ⟨k + 1, by omega, by go_num, _, rfl⟩
      case measure => simp [intOf]; omega
    · go_wp2
      go_ret
      exact ⟨rfl, below_drewN (Below.refl _ _) _⟩
/-- Two codes, two tables of effects that are read, and rows of numbers. -/
structure LE (w : World) (k : Cd) (gk gs : Nat) (v u : CV) (A A' : Option Addr) (rows : List (Option Addr × List Nat)) (W : World) : Prop where
  ls : LS w k gk gs v u rows W
  t : Rd W W.heap.size A (effCells (effN k))
  t' : Rd W W.heap.size A' (effCells (effN k))
section
variable {w W W' : World} {k : Cd} {gk gs : Nat} {v u : CV} {A A' : Option Addr} {rows : List (Option Addr × List Nat)}
theorem LE.to (h : LE w k gk gs v u A A' rows W) (hb : Below W.heap.size W W') : LE w k gk gs v u A A' rows W' := ⟨h.ls.to hb, (h.t.below hb).full, (h.t'.below hb).full⟩
theorem LE.drew (h : LE w k gk gs v u A A' rows W) : LE w k gk gs v u A A' rows W.drew := h.to (below_drew0 W)
theorem LE.add {R : Option Addr} {xs : List Nat} (h : LE w k gk gs v u A A' rows W) (hr : Rd W W.heap.size R (nv xs)) : LE w k gk gs v u A A' ((R, xs) :: rows) W := ⟨h.ls.add hr, h.t, h.t'⟩
theorem LE.rest {p : Option Addr × List Nat} (h : LE w k gk gs v u A A' (p :: rows) W) : LE w k gk gs v u A A' rows W := ⟨⟨h.ls.lb, fun q hq => h.ls.rd q (List.mem_cons_of_mem _ hq)⟩, h.t, h.t'⟩
theorem LE.some_ (h : LE w k gk gs v u A A' rows W) {p : Nat} (hp : p < k.procs.length) : ∃ ad, A' = some ad := by
  obtain ⟨ad, e, _⟩ := h.t'.eff (i := p) (by rw [effN_len]; exact hp)
  exact ⟨ad, e⟩
theorem LE.row {ad : Addr} (h : LE w k gk gs v u A (some ad) rows W) {p : Nat} (hp : p < k.procs.length) :
    W.cell? (ad.add (p * 2)) = some (.int .i64 ((keepN k p : Nat) : Int)) ∧ W.cell? ⟨(ad.add (p * 2)).block, (ad.add (p * 2)).off + 1, none⟩ = some (.int .i64 ((gt (genN k) p : Nat) : Int)) := by
  have hl : p < (effN k).length := by rw [effN_len]; exact hp
  obtain ⟨ad', e, _, c0, c1⟩ := h.t'.eff hl
  injection e with e
  subst e
  rw [effN_get hl] at c0 c1
  exact ⟨c0, c1⟩
end
end Go.Proofs.YtkgoajnnkimkaaaGreat
