/- Contract of toCode. -/
import Derived.Test.YtjnlmiekldflhaaLTo
import Derived.Test.YtjnlmiekldflhaaLSz
set_option linter.unusedSimpArgs false
set_option linter.unusedVariables false
namespace Go.Proofs.Ytjnlmiekldflhaa
open Go.ChangeShapes Go.WideShapes Go.ChangeAt Go.RowKit

/-- Inside toCode: the argument's box, the answer's, the new code's. -/
structure InTo (w : World) (v : CV) (k : Cd) (r : Array Value) (W : World) : Prop where
  below : Below w.heap.size w W
  size : w.heap.size + 3 ≤ W.heap.size
  arg : W.heap[w.heap.size]? = some (.cells #[.slice v.gA k.globals.length v.gc, .slice v.lA k.locks.length v.lc, .slice v.pA k.procs.length v.pc, .slice v.eA k.entry.length v.ec, .slice v.iA k.ins.length v.ic] 26)
  res : W.heap[w.heap.size + 1]? = some (.cells #[.slice none 0 0, .slice none 0 0, .slice none 0 0, .slice none 0 0, .slice none 0 0] 33)
  out : W.heap[w.heap.size + 1 + 1]? = some (.cells r 33)
section
variable {w W W' : World} {v : CV} {k : Cd} {r : Array Value}
theorem InTo.to (h : InTo w v k r W) (hb : Below W.heap.size W W') : InTo w v k r W' := by
  have := h.size
  exact ⟨below_trans' h.below hb, Nat.le_trans h.size hb.size, (hb.block _ (by omega)).trans h.arg, (hb.block _ (by omega)).trans h.res, (hb.block _ (by omega)).trans h.out⟩
theorem InTo.set (h : InTo w v k r W) (j : Nat) (x : Value) : InTo w v k (r.setIfInBounds j x) (W.setCell ⟨w.heap.size + 1 + 1, j, none⟩ x) :=
  ⟨h.below.setCell (by show w.heap.size ≤ w.heap.size + 1 + 1; omega) _, by simpa using h.size, set_row_other h.arg (by show w.heap.size ≠ w.heap.size + 1 + 1; omega) _, set_row_other h.res (by show w.heap.size + 1 ≠ w.heap.size + 1 + 1; omega) _, set_row h.out _ _⟩
theorem inTo_start (w : World) (v : CV) (k : Cd) : InTo w v k #[.slice none 0 0, .slice none 0 0, .slice none 0 0, .slice none 0 0, .slice none 0 0] (((w.alloc (.cells #[.slice v.gA k.globals.length v.gc, .slice v.lA k.locks.length v.lc, .slice v.pA k.procs.length v.pc, .slice v.eA k.entry.length v.ec, .slice v.iA k.ins.length v.ic] 26)).alloc (.cells #[.slice none 0 0, .slice none 0 0, .slice none 0 0, .slice none 0 0, .slice none 0 0] 33)).alloc (.cells #[.slice none 0 0, .slice none 0 0, .slice none 0 0, .slice none 0 0, .slice none 0 0] 33)) := by
  have h1 := heap_alloc_new w (.cells #[.slice v.gA k.globals.length v.gc, .slice v.lA k.locks.length v.lc, .slice v.pA k.procs.length v.pc, .slice v.eA k.entry.length v.ec, .slice v.iA k.ins.length v.ic] 26)
  have b1 := below_alloc0 w (.cells #[.slice v.gA k.globals.length v.gc, .slice v.lA k.locks.length v.lc, .slice v.pA k.procs.length v.pc, .slice v.eA k.entry.length v.ec, .slice v.iA k.ins.length v.ic] 26)
  have s1 : (w.alloc (.cells #[.slice v.gA k.globals.length v.gc, .slice v.lA k.locks.length v.lc, .slice v.pA k.procs.length v.pc, .slice v.eA k.entry.length v.ec, .slice v.iA k.ins.length v.ic] 26)).heap.size = w.heap.size + 1 := by simp
  generalize w.alloc (.cells #[.slice v.gA k.globals.length v.gc, .slice v.lA k.locks.length v.lc, .slice v.pA k.procs.length v.pc, .slice v.eA k.entry.length v.ec, .slice v.iA k.ins.length v.ic] 26) = W1 at *
  have h2 := heap_alloc_new W1 (.cells #[.slice none 0 0, .slice none 0 0, .slice none 0 0, .slice none 0 0, .slice none 0 0] 33)
  have b2 := below_alloc0 W1 (.cells #[.slice none 0 0, .slice none 0 0, .slice none 0 0, .slice none 0 0, .slice none 0 0] 33)
  have s2 : (W1.alloc (.cells #[.slice none 0 0, .slice none 0 0, .slice none 0 0, .slice none 0 0, .slice none 0 0] 33)).heap.size = w.heap.size + 1 + 1 := by simp [s1]
  generalize W1.alloc (.cells #[.slice none 0 0, .slice none 0 0, .slice none 0 0, .slice none 0 0, .slice none 0 0] 33) = W2 at *
  have h3 := heap_alloc_new W2 (.cells #[.slice none 0 0, .slice none 0 0, .slice none 0 0, .slice none 0 0, .slice none 0 0] 33)
  have b3 := below_alloc0 W2 (.cells #[.slice none 0 0, .slice none 0 0, .slice none 0 0, .slice none 0 0, .slice none 0 0] 33)
  have s3 : (W2.alloc (.cells #[.slice none 0 0, .slice none 0 0, .slice none 0 0, .slice none 0 0, .slice none 0 0] 33)).heap.size = w.heap.size + 3 := by simp [s2]
  generalize W2.alloc (.cells #[.slice none 0 0, .slice none 0 0, .slice none 0 0, .slice none 0 0, .slice none 0 0] 33) = W3 at *
  rw [s1] at h2
  rw [s2] at h3
  exact ⟨below_trans' (below_trans' b1 b2) b3, by omega, (b3.block _ (by omega)).trans ((b2.block _ (by omega)).trans h1), (b3.block _ (by omega)).trans h2, h3⟩
end
theorem own_cap {w : World} {base : Nat} {t : TypeId} {size n c : Nat} {A : Option Addr} {xs : List Value} (h : w.ownsRow base t size (.slice A n c) n xs) : n ≤ c := by
  rcases h.2 with ⟨e, h0⟩ | ⟨g, cap, cur, e, _, _, hc, _⟩
  · omega
  · injection e with _ _ e3
    omega
theorem InTo.high {w W W' : World} {v : CV} {k : Cd} {r : Array Value} (h : InTo w v k r W) (hb : Below W.heap.size W W') (x : Value) (j : Nat) : ∀ p u, (High W (w.heap.size + 3)).cell? p = some u → (High (W'.setCell ⟨w.heap.size + 1 + 1, j, none⟩ x) (w.heap.size + 3)).cell? p = some u :=
  fun p u hp => high_set (Nat.le_refl _) (by show w.heap.size + 1 + 1 < w.heap.size + 3; omega) _ p u (high_below (Nat.le_refl _) hb p u hp)
theorem InTo.new {w W W' : World} {v : CV} {k : Cd} {r : Array Value} (h : InTo w v k r W) (x : Value) (j : Nat) : ∀ p u, (High W' W.heap.size).cell? p = some u → (High (W'.setCell ⟨w.heap.size + 1 + 1, j, none⟩ x) (w.heap.size + 3)).cell? p = some u :=
  fun p u hp => high_set (Nat.le_refl _) (by show w.heap.size + 1 + 1 < w.heap.size + 3; omega) _ p u (high_mono h.size p u hp)
theorem set_size (W : World) (a : Addr) (x : Value) : W.heap.size ≤ (W.setCell a x).heap.size := by simp
/-- What toCode answers. -/
def CodeNew (w : World) (k : Cd) (e : Ending) (w' : World) : Prop :=
  ∃ v : CV, e = .returned (.agg #[.slice v.gA k.globals.length v.gc, .slice v.lA k.locks.length v.lc, .slice v.pA k.procs.length v.pc, .slice v.eA k.entry.length v.ec, .slice v.iA k.ins.length v.ic]) ∧ CodeAt (High w' w.heap.size) w'.heap.size v k ∧ Below w.heap.size w w'

set_option maxHeartbeats 4000000 in
theorem toCode_any {B : Nat} (v : CV) (k : Cd) (w : World) (hk : CodeAt w B v k) (hb : CdB 1048576 k) : Calls Try.prog 18 #[.agg #[.slice v.gA k.globals.length v.gc, .slice v.lA k.locks.length v.lc, .slice v.pA k.procs.length v.pc, .slice v.eA k.entry.length v.ec, .slice v.iA k.ins.length v.ic]] w (CodeNew w k) := by
  have HG := Lib.hid (fun W (h : CodeAt W w.heap.size v k) => toStringS_any v.gA v.gc k.globals W h.g (by have := hb.globals; omega))
  have HLk := Lib.hid (fun W (h : CodeAt W w.heap.size v k) => toStringS_any v.lA v.lc k.locks W h.l (by have := hb.locks; omega))
  have HP := Lib.hid (fun W (h : CodeAt W w.heap.size v k) => toStringS_any v.pA v.pc k.procs W h.p (by have := hb.procs; omega))
  have HE := Lib.hid (fun W (h : CodeAt W w.heap.size v k) => toIntS_any v.eA v.ec k.entry W h.e (by have := hb.entry; omega))
  have HI := Lib.hid (fun W (h : CodeAt W w.heap.size v k) => toInsS_any v.iA v.ic k.ins W h.i hb.ins hb.insB)
  have hk0 := hk.full
  clear hb hk
  go_enter Try.func18, Try.ntmps18
  go_wp2_with fail
  have t0 := inTo_start w v k
  generalize ((w.alloc (.cells #[.slice v.gA k.globals.length v.gc, .slice v.lA k.locks.length v.lc, .slice v.pA k.procs.length v.pc, .slice v.eA k.entry.length v.ec, .slice v.iA k.ins.length v.ic] 26)).alloc (.cells #[.slice none 0 0, .slice none 0 0, .slice none 0 0, .slice none 0 0, .slice none 0 0] 33)).alloc (.cells #[.slice none 0 0, .slice none 0 0, .slice none 0 0, .slice none 0 0, .slice none 0 0] 33) = W at t0 ⊢
  refine (HG.out _ (hk0.below t0.below)).mono ?_
  rintro e w1 ⟨A1, c1, rfl, o1, b1⟩
  have u1 := t0.to b1
  obtain ⟨pa, qa⟩ := row_facts u1.arg
  obtain ⟨po, qo⟩ := row_facts u1.out
  have m1 := pa 1 _ rfl
  have n1 := po 0 _ rfl
  have q1 := qo 0
  clear pa qa po qo
  go_wp2_with fail
  have t1 : InTo w v k #[.slice A1 k.globals.length c1, .slice none 0 0, .slice none 0 0, .slice none 0 0, .slice none 0 0] (w1.setCell ⟨w.heap.size + 1 + 1, 0, none⟩ (.slice A1 k.globals.length c1)) := u1.set 0 _
  have r1 : Rd (High (w1.setCell ⟨w.heap.size + 1 + 1, 0, none⟩ (.slice A1 k.globals.length c1)) (w.heap.size + 3)) (w1.setCell ⟨w.heap.size + 1 + 1, 0, none⟩ (.slice A1 k.globals.length c1)).heap.size A1 (k.globals.map sv) := (own_high o1).sub (set_size _ _ _) (t0.new _ _)
  have g1 := own_cap o1
  generalize w1.setCell ⟨w.heap.size + 1 + 1, 0, none⟩ (.slice A1 k.globals.length c1) = V1 at t1 r1 ⊢
  clear o1 b1 u1 m1 n1 q1 t0
  refine (HLk.out _ (hk0.below t1.below)).mono ?_
  rintro e w2 ⟨A2, c2, rfl, o2, b2⟩
  have u2 := t1.to b2
  obtain ⟨pa, qa⟩ := row_facts u2.arg
  obtain ⟨po, qo⟩ := row_facts u2.out
  have m2 := pa 2 _ rfl
  have n2 := po 1 _ rfl
  have q2 := qo 1
  clear pa qa po qo
  go_wp2_with fail
  have t2 : InTo w v k #[.slice A1 k.globals.length c1, .slice A2 k.locks.length c2, .slice none 0 0, .slice none 0 0, .slice none 0 0] (w2.setCell ⟨w.heap.size + 1 + 1, 1, none⟩ (.slice A2 k.locks.length c2)) := u2.set 1 _
  have r1 : Rd (High (w2.setCell ⟨w.heap.size + 1 + 1, 1, none⟩ (.slice A2 k.locks.length c2)) (w.heap.size + 3)) (w2.setCell ⟨w.heap.size + 1 + 1, 1, none⟩ (.slice A2 k.locks.length c2)).heap.size A1 (k.globals.map sv) := r1.sub (Nat.le_trans b2.size (set_size _ _ _)) (t1.high b2 _ _)
  have r2 : Rd (High (w2.setCell ⟨w.heap.size + 1 + 1, 1, none⟩ (.slice A2 k.locks.length c2)) (w.heap.size + 3)) (w2.setCell ⟨w.heap.size + 1 + 1, 1, none⟩ (.slice A2 k.locks.length c2)).heap.size A2 (k.locks.map sv) := (own_high o2).sub (set_size _ _ _) (t1.new _ _)
  have g2 := own_cap o2
  generalize w2.setCell ⟨w.heap.size + 1 + 1, 1, none⟩ (.slice A2 k.locks.length c2) = V2 at t2 r1 r2 ⊢
  clear o2 b2 u2 m2 n2 q2 t1
  refine (HP.out _ (hk0.below t2.below)).mono ?_
  rintro e w3 ⟨A3, c3, rfl, o3, b3⟩
  have u3 := t2.to b3
  obtain ⟨pa, qa⟩ := row_facts u3.arg
  obtain ⟨po, qo⟩ := row_facts u3.out
  have m3 := pa 3 _ rfl
  have n3 := po 2 _ rfl
  have q3 := qo 2
  clear pa qa po qo
  go_wp2_with fail
  have t3 : InTo w v k #[.slice A1 k.globals.length c1, .slice A2 k.locks.length c2, .slice A3 k.procs.length c3, .slice none 0 0, .slice none 0 0] (w3.setCell ⟨w.heap.size + 1 + 1, 2, none⟩ (.slice A3 k.procs.length c3)) := u3.set 2 _
  have r1 : Rd (High (w3.setCell ⟨w.heap.size + 1 + 1, 2, none⟩ (.slice A3 k.procs.length c3)) (w.heap.size + 3)) (w3.setCell ⟨w.heap.size + 1 + 1, 2, none⟩ (.slice A3 k.procs.length c3)).heap.size A1 (k.globals.map sv) := r1.sub (Nat.le_trans b3.size (set_size _ _ _)) (t2.high b3 _ _)
  have r2 : Rd (High (w3.setCell ⟨w.heap.size + 1 + 1, 2, none⟩ (.slice A3 k.procs.length c3)) (w.heap.size + 3)) (w3.setCell ⟨w.heap.size + 1 + 1, 2, none⟩ (.slice A3 k.procs.length c3)).heap.size A2 (k.locks.map sv) := r2.sub (Nat.le_trans b3.size (set_size _ _ _)) (t2.high b3 _ _)
  have r3 : Rd (High (w3.setCell ⟨w.heap.size + 1 + 1, 2, none⟩ (.slice A3 k.procs.length c3)) (w.heap.size + 3)) (w3.setCell ⟨w.heap.size + 1 + 1, 2, none⟩ (.slice A3 k.procs.length c3)).heap.size A3 (k.procs.map sv) := (own_high o3).sub (set_size _ _ _) (t2.new _ _)
  have g3 := own_cap o3
  generalize w3.setCell ⟨w.heap.size + 1 + 1, 2, none⟩ (.slice A3 k.procs.length c3) = V3 at t3 r1 r2 r3 ⊢
  clear o3 b3 u3 m3 n3 q3 t2
  refine (HE.out _ (hk0.below t3.below)).mono ?_
  rintro e w4 ⟨A4, c4, rfl, o4, b4⟩
  have u4 := t3.to b4
  obtain ⟨pa, qa⟩ := row_facts u4.arg
  obtain ⟨po, qo⟩ := row_facts u4.out
  have m4 := pa 4 _ rfl
  have n4 := po 3 _ rfl
  have q4 := qo 3
  clear pa qa po qo
  go_wp2_with fail
  have t4 : InTo w v k #[.slice A1 k.globals.length c1, .slice A2 k.locks.length c2, .slice A3 k.procs.length c3, .slice A4 k.entry.length c4, .slice none 0 0] (w4.setCell ⟨w.heap.size + 1 + 1, 3, none⟩ (.slice A4 k.entry.length c4)) := u4.set 3 _
  have r1 : Rd (High (w4.setCell ⟨w.heap.size + 1 + 1, 3, none⟩ (.slice A4 k.entry.length c4)) (w.heap.size + 3)) (w4.setCell ⟨w.heap.size + 1 + 1, 3, none⟩ (.slice A4 k.entry.length c4)).heap.size A1 (k.globals.map sv) := r1.sub (Nat.le_trans b4.size (set_size _ _ _)) (t3.high b4 _ _)
  have r2 : Rd (High (w4.setCell ⟨w.heap.size + 1 + 1, 3, none⟩ (.slice A4 k.entry.length c4)) (w.heap.size + 3)) (w4.setCell ⟨w.heap.size + 1 + 1, 3, none⟩ (.slice A4 k.entry.length c4)).heap.size A2 (k.locks.map sv) := r2.sub (Nat.le_trans b4.size (set_size _ _ _)) (t3.high b4 _ _)
  have r3 : Rd (High (w4.setCell ⟨w.heap.size + 1 + 1, 3, none⟩ (.slice A4 k.entry.length c4)) (w.heap.size + 3)) (w4.setCell ⟨w.heap.size + 1 + 1, 3, none⟩ (.slice A4 k.entry.length c4)).heap.size A3 (k.procs.map sv) := r3.sub (Nat.le_trans b4.size (set_size _ _ _)) (t3.high b4 _ _)
  have r4 : Rd (High (w4.setCell ⟨w.heap.size + 1 + 1, 3, none⟩ (.slice A4 k.entry.length c4)) (w.heap.size + 3)) (w4.setCell ⟨w.heap.size + 1 + 1, 3, none⟩ (.slice A4 k.entry.length c4)).heap.size A4 (k.entry.map iv) := (own_high o4).sub (set_size _ _ _) (t3.new _ _)
  have g4 := own_cap o4
  generalize w4.setCell ⟨w.heap.size + 1 + 1, 3, none⟩ (.slice A4 k.entry.length c4) = V4 at t4 r1 r2 r3 r4 ⊢
  clear o4 b4 u4 m4 n4 q4 t3
  refine (HI.out _ (hk0.below t4.below)).mono ?_
  rintro e w5 ⟨A5, rfl, o5, b5⟩
  have u5 := t4.to b5
  obtain ⟨pa, qa⟩ := row_facts u5.arg
  obtain ⟨po, qo⟩ := row_facts u5.out
  obtain ⟨pr, qr⟩ := row_facts u5.res
  have x0 := po 0 _ rfl
  have y0 := pr 0 _ rfl
  have z0 := qr 0
  have x1 := po 1 _ rfl
  have y1 := pr 1 _ rfl
  have z1 := qr 1
  have x2 := po 2 _ rfl
  have y2 := pr 2 _ rfl
  have z2 := qr 2
  have x3 := po 3 _ rfl
  have y3 := pr 3 _ rfl
  have z3 := qr 3
  have x4 := po 4 _ rfl
  have y4 := pr 4 _ rfl
  have z4 := qr 4
  have q4 := qo 4
  clear pa qa po qo pr qr
  have HH := Lib.hid u5.res
  go_wp2_with fail
  have hfin := set_row (set_row (set_row (set_row (set_row (set_row_other HH.out (a := ⟨w.heap.size + 1 + 1, 4, none⟩) (by show w.heap.size + 1 ≠ w.heap.size + 1 + 1; omega) (.slice A5 k.ins.length k.ins.length)) 0 (.slice A1 k.globals.length c1)) 1 (.slice A2 k.locks.length c2)) 2 (.slice A3 k.procs.length c3)) 3 (.slice A4 k.entry.length c4)) 4 (.slice A5 k.ins.length k.ins.length)
  refine bodyPost_ret (results_cell_row rfl _ _ _ _ _ _ _ rfl hfin Try.underlying33 rfl (by kernel_rfl)) rfl ?_
  have h1 : w.heap.size + 1 < w.heap.size + 3 := by omega
  have h1' : w.heap.size ≤ w.heap.size + 1 := by omega
  have h2 : w.heap.size + 1 + 1 < w.heap.size + 3 := by omega
  have h2' : w.heap.size ≤ w.heap.size + 1 + 1 := by omega
  have hs : w5.heap.size ≤ ((((((w5.setCell ⟨w.heap.size + 1 + 1, 4, none⟩ (.slice A5 k.ins.length k.ins.length)).setCell ⟨w.heap.size + 1, 0, none⟩ (.slice A1 k.globals.length c1)).setCell ⟨w.heap.size + 1, 1, none⟩ (.slice A2 k.locks.length c2)).setCell ⟨w.heap.size + 1, 2, none⟩ (.slice A3 k.procs.length c3)).setCell ⟨w.heap.size + 1, 3, none⟩ (.slice A4 k.entry.length c4)).setCell ⟨w.heap.size + 1, 4, none⟩ (.slice A5 k.ins.length k.ins.length)).heap.size := by simp
  have hx : ∀ p u, (High w5 (w.heap.size + 3)).cell? p = some u → (High ((((((w5.setCell ⟨w.heap.size + 1 + 1, 4, none⟩ (.slice A5 k.ins.length k.ins.length)).setCell ⟨w.heap.size + 1, 0, none⟩ (.slice A1 k.globals.length c1)).setCell ⟨w.heap.size + 1, 1, none⟩ (.slice A2 k.locks.length c2)).setCell ⟨w.heap.size + 1, 2, none⟩ (.slice A3 k.procs.length c3)).setCell ⟨w.heap.size + 1, 3, none⟩ (.slice A4 k.entry.length c4)).setCell ⟨w.heap.size + 1, 4, none⟩ (.slice A5 k.ins.length k.ins.length)) w.heap.size).cell? p = some u := by
    intro p u hp
    refine high_mono (lo := w.heap.size + 3) (by omega) p u ?_
    iterate 5 refine high_set (Nat.le_refl _) h1 _ p u ?_
    refine high_set (Nat.le_refl _) h2 _ p u ?_
    exact hp
  have hy := fun p u hp => hx p u (high_below (Nat.le_refl _) b5 p u hp)
  have hz : ∀ p u, (High w5 V4.heap.size).cell? p = some u → (High ((((((w5.setCell ⟨w.heap.size + 1 + 1, 4, none⟩ (.slice A5 k.ins.length k.ins.length)).setCell ⟨w.heap.size + 1, 0, none⟩ (.slice A1 k.globals.length c1)).setCell ⟨w.heap.size + 1, 1, none⟩ (.slice A2 k.locks.length c2)).setCell ⟨w.heap.size + 1, 2, none⟩ (.slice A3 k.procs.length c3)).setCell ⟨w.heap.size + 1, 3, none⟩ (.slice A4 k.entry.length c4)).setCell ⟨w.heap.size + 1, 4, none⟩ (.slice A5 k.ins.length k.ins.length)) w.heap.size).cell? p = some u := fun p u hp => hx p u (high_mono t4.size p u hp)
  refine ⟨⟨A1, A2, A3, A4, A5, c1, c2, c3, c4, k.ins.length⟩, rfl, ⟨g1, g2, g3, g4, Nat.le_refl _, ?_, ?_, ?_, ?_, ?_⟩, ?_⟩
  · exact r1.sub (Nat.le_trans b5.size hs) hy
  · exact r2.sub (Nat.le_trans b5.size hs) hy
  · exact r3.sub (Nat.le_trans b5.size hs) hy
  · exact r4.sub (Nat.le_trans b5.size hs) hy
  · exact o5.sub hs hz
  · iterate 5 refine Below.setCell ?_ h1' _
    refine Below.setCell ?_ h2' _
    exact u5.below
end Go.Proofs.Ytjnlmiekldflhaa
