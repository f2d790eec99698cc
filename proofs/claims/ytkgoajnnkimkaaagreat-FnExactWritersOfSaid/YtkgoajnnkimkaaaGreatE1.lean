/- Contract of l16Put: what was met and what may be held, as the reference keeps it. -/
import Derived.Test.YtkgoajnnkimkaaaGreatF1
import Derived.Test.YtkgoajnnkimkaaaGreatD5
set_option linter.unusedSimpArgs false
set_option linter.unusedVariables false
namespace Go.Proofs.YtkgoajnnkimkaaaGreat
open Go.ChangeShapes Go.WideShapes Go.ChangeAt Go.RowKit

/-- What the reference keeps: its block g, the marks in gm, the sets in gx. -/
structure LK (W : World) (base g gm gx : Nat) (v : CV) (k : Cd) (ms : List Bool) (xs : List Nat) (new : Bool) : Prop where
  blk : W.heap[g]? = some (.cells #[.slice v.gA k.globals.length v.gc, .slice v.lA k.locks.length v.lc, .slice v.pA k.procs.length v.pc, .slice v.eA k.entry.length v.ec, .slice v.iA k.ins.length v.ic, .slice (some ⟨gm, 0, none⟩) k.ins.length k.ins.length, .slice (some ⟨gx, 0, none⟩) k.ins.length k.ins.length, .bool new] 100)
  rm : W.ownsRow base 4 1 (.slice (some ⟨gm, 0, none⟩) k.ins.length k.ins.length) k.ins.length (ms.map bv)
  rx : W.ownsRow base 3 1 (.slice (some ⟨gx, 0, none⟩) k.ins.length k.ins.length) k.ins.length (nv xs)
  ne : g ≠ gm ∧ g ≠ gx ∧ gm ≠ gx
  lo : base ≤ g
section
variable {W W' : World} {base g gm gx : Nat} {v : CV} {k : Cd} {ms : List Bool} {xs : List Nat} {new : Bool}
theorem LK.lt (h : LK W base g gm gx v k ms xs new) : g < W.heap.size := (Array.getElem?_eq_some_iff.1 h.blk).1
theorem LK.cell (h : LK W base g gm gx v k ms xs new) (j : Nat) {u : Value} (hu : (#[.slice v.gA k.globals.length v.gc, .slice v.lA k.locks.length v.lc, .slice v.pA k.procs.length v.pc, .slice v.eA k.entry.length v.ec, .slice v.iA k.ins.length v.ic, .slice (some ⟨gm, 0, none⟩) k.ins.length k.ins.length, .slice (some ⟨gx, 0, none⟩) k.ins.length k.ins.length, .bool new] : Array Value)[j]? = some u) : W.cell? ⟨g, j, none⟩ = some u := (row_facts h.blk).1 j u hu
theorem LK.free (h : LK W base g gm gx v k ms xs new) (j : Nat) : W.frozen? ⟨g, j, none⟩ = false := (row_facts h.blk).2 j
theorem LK.kat (h : LK W base g gm gx v k ms xs new) : KAt W g v k := ⟨h.cell 0 rfl, h.cell 1 rfl, h.cell 2 rfl, h.cell 3 rfl, h.cell 4 rfl⟩
theorem LK.below (h : LK W base g gm gx v k ms xs new) (hb : Below W.heap.size W W') : LK W' base g gm gx v k ms xs new :=
  ⟨(hb.block g h.lt).trans h.blk, own_below h.rm hb, own_below h.rx hb, h.ne, h.lo⟩
theorem LK.mlen (h : LK W base g gm gx v k ms xs new) : ms.length = k.ins.length := by have := own_len h.rm; simpa using this
theorem LK.xlen (h : LK W base g gm gx v k ms xs new) : xs.length = k.ins.length := by have := own_len h.rx; simpa [nv] using this
theorem LK.mark (h : LK W base g gm gx v k ms xs new) (x : Nat) : LK (W.setCell ⟨gm, x, none⟩ (.bool true)) base g gm gx v k (ms.set x true) xs new := by
  obtain ⟨s1, s2⟩ := h.rm.stored x (bv true)
  rw [bv_set] at s1
  refine ⟨set_row_other h.blk (a := ⟨gm, x, none⟩) h.ne.1 _, s1, h.rx.kept s2 (.inr ?_), h.ne, h.lo⟩
  intro e
  injection e with e
  exact h.ne.2.2 e.symm
theorem LK.put (h : LK W base g gm gx v k ms xs new) (x y : Nat) {u : Int} (hu : u = y) : LK (W.setCell ⟨gx, x, none⟩ (.int .i64 u)) base g gm gx v k ms (xs.set x y) new := by
  subst hu
  obtain ⟨s1, s2⟩ := h.rx.stored x (.int .i64 (y : Int))
  rw [nv_set] at s1
  refine ⟨set_row_other h.blk (a := ⟨gx, x, none⟩) h.ne.2.1 _, h.rm.kept s2 (.inr ?_), s1, h.ne, h.lo⟩
  intro e
  injection e with e
  exact h.ne.2.2 e
theorem LK.say (h : LK W base g gm gx v k ms xs new) (b : Bool) : LK (W.setCell ⟨g, 7, none⟩ (.bool b)) base g gm gx v k ms xs b :=
  ⟨set_row h.blk 7 (.bool b), h.rm.kept (grown_set W ⟨g, 7, none⟩ _) (.inr fun e => by injection e with e; exact h.ne.1 e.symm), h.rx.kept (grown_set W ⟨g, 7, none⟩ _) (.inr fun e => by injection e with e; exact h.ne.2.1 e.symm), h.ne, h.lo⟩
end
/-- Three blocks alone may have changed. -/
structure Tch (g gm gx : Nat) (w w' : World) : Prop where
  os : w'.os = w.os
  tape : w'.tape = w.tape
  output : w'.output = w.output
  size : w.heap.size ≤ w'.heap.size
  block : ∀ b, b < w.heap.size → b ≠ g → b ≠ gm → b ≠ gx → w'.heap[b]? = w.heap[b]?
section
variable {g gm gx : Nat} {w w1 w2 : World}
theorem Tch.refl (g gm gx : Nat) (w : World) : Tch g gm gx w w := ⟨rfl, rfl, rfl, Nat.le_refl _, fun _ _ _ _ _ => rfl⟩
theorem Tch.trans (h : Tch g gm gx w w1) (k : Tch g gm gx w1 w2) : Tch g gm gx w w2 :=
  ⟨k.os.trans h.os, k.tape.trans h.tape, k.output.trans h.output, Nat.le_trans h.size k.size, fun b hb h1 h2 h3 => (k.block b (Nat.lt_of_lt_of_le hb h.size) h1 h2 h3).trans (h.block b hb h1 h2 h3)⟩
theorem Tch.of_below (h : Below w.heap.size w w1) : Tch g gm gx w w1 := ⟨h.os, h.tape, h.output, h.size, fun b hb _ _ _ => h.block b hb⟩
theorem Tch.drew (h : Tch g gm gx w w1) : Tch g gm gx w w1.drew := ⟨h.os, h.tape, h.output, h.size, h.block⟩
theorem Tch.set (h : Tch g gm gx w w1) {a : Addr} (ha : a.block = g ∨ a.block = gm ∨ a.block = gx) (x : Value) : Tch g gm gx w (w1.setCell a x) :=
  h.trans ⟨(grown_set w1 a x).os, (grown_set w1 a x).tape, (grown_set w1 a x).output, (grown_set w1 a x).size, fun b hb h1 h2 h3 => (grown_set w1 a x).block b hb fun e => by
    injection e with e
    rcases ha with h | h | h
    · exact h1 (e.trans h)
    · exact h2 (e.trans h)
    · exact h3 (e.trans h)⟩
theorem Tch.below (h : Tch g gm gx w w1) {B : Nat} (h0 : B ≤ w.heap.size) (h1 : B ≤ g) (h2 : B ≤ gm) (h3 : B ≤ gx) : Below B w w1 :=
  ⟨h.os, h.tape, h.output, h.size, fun b hb => h.block b (by omega) (by omega) (by omega) (by omega)⟩
theorem Tch.own (h : Tch g gm gx w w1) {base : Nat} {t : TypeId} {size n : Nat} {v : Value} {xs : List Value} (ho : w.ownsRow base t size v n xs) (h1 : g < base) (h2 : gm < base) (h3 : gx < base) : w1.ownsRow base t size v n xs := by
  refine ⟨ho.1, ?_⟩
  rcases ho.2 with h0 | ⟨b, cap, cur, e, hb, hh, r⟩
  · exact .inl h0
  · exact .inr ⟨b, cap, cur, e, hb, (h.block b (Array.getElem?_eq_some_iff.1 hh).1 (by omega) (by omega) (by omega)).trans hh, r⟩
end
/-- Does it change anything? -/
def chg (h : Nat) (ms : List Bool) (xs : List Nat) (x : Nat) : Bool := !mkd ms x || (gt xs x ||| h != gt xs x)

set_option maxRecDepth 100000 in
set_option maxHeartbeats 2000000 in
theorem l16Put_any {base : Nat} (g gm gx : Nat) (v : CV) (k : Cd) (x h : Nat) (ms : List Bool) (xs : List Nat) (new : Bool) (w : World) (hL : LK w base g gm gx v k ms xs new) (hx : x < k.ins.length) (hn : k.ins.length ≤ 1500) (hh : h < 64) (hxs : gt xs x < 64) :
    Calls Tryz.prog 177 #[.pointer (some ⟨g, 0, none⟩), .int .i64 x, .int .i64 h] w fun e w' => e = .returned (.tuple #[]) ∧ LK w' base g gm gx v k (ms.set x true) (xs.set x (gt xs x ||| h)) (new || chg h ms xs x) ∧ Tch g gm gx w w' := by
  have hml := hL.mlen
  have hxl := hL.xlen
  have hbm := (own_lt hL.rm).1
  have hbx := (own_lt hL.rx).1
  have hne := hL.ne
  have HML := Lib.hid hml
  have HXL := Lib.hid hxl
  have cm := own_at hL.rm (j := x) hx (u := .bool (mkd ms x)) (by rw [List.getElem?_map, List.getElem?_eq_getElem (by omega), mkd_get (by omega)]; rfl)
  have cx := own_at hL.rx (j := x) hx (nv_get (gt_some (xs := xs) (by omega)))
  have c5 := hL.cell 5 rfl
  have c6 := hL.cell 6 rfl
  have c7 := hL.cell 7 rfl
  have f7 := hL.free 7
  have fm := hL.rm.frozenAt x
  have fx := hL.rx.frozenAt x
  have y1 : (0 : Int) ≤ (x : Int) := by omega
  have y2 : (x : Int) < (k.ins.length : Int) := by omega
  have HOR := Lib.hid (show bits .or .i64 (gt xs x : Int) (h : Int) = ((gt xs x ||| h : Nat) : Int) from i64_or_nat _ _ (by omega) (by omega))
  clear hml hxl
  by_cases hc : chg h ms xs x = true
  · have HNC := Lib.hid (show (new || chg h ms xs x) = true from by rw [hc]; simp)
    have HLD := Lib.hid (fun n => hL.below (below_drewN (Below.refl w.heap.size w) n))
    have hlo := hL.lo
    have hlt := hL.lt
    cases hmk : mkd ms x
    · rw [hmk] at cm
      clear hc hmk hL
      go_enter Tryz.func177, Tryz.ntmps177
      go_wp2_with fail
      go_quiet (fail)
      go_wp2_with fail
      have hL1 := HLD.out nq
      have hB1 : Tch g gm gx w (w.drewN nq) := Tch.of_below (below_drewN (Below.refl _ _) nq)
      generalize w.drewN nq = w1 at hL1 hB1 ⊢
      have d5 := hL1.cell 5 rfl
      have fm1 := hL1.rm.frozenAt x
      obtain ⟨um, cm1⟩ := own_has hL1.rm (j := x) (by omega)
      have hL2 := hL1.mark x
      have hB2 := hB1.set (a := ⟨gm, x, none⟩) (.inr (.inl rfl)) (.bool true)
      have e6 := hL2.cell 6 rfl
      have ex := own_at hL2.rx (j := x) hx (nv_get (gt_some (xs := xs) (by have := HXL.out; omega)))
      clear c5 c6 c7 f7 fm fx cm cx hL1
      go_wp2_with fail
      generalize w1.setCell ⟨gm, x, none⟩ (.bool true) = w2 at hL2 hB2 e6 ex ⊢
      go_still_tail 15, (by kernel_rfl)
      change wpList _ _ _ _ _ w2.drew
      have hL3 := hL2.below (Below.refl w2.heap.size w2).drew
      have hB3 : Tch g gm gx w w2.drew := hB2.drew
      clear hL2 hB2 e6 ex d5 fm1 cm1
      generalize w2.drew = w3 at hL3 hB3 ⊢
      have fx3 := hL3.rx.frozenAt x
      obtain ⟨ux, cx3⟩ := own_has hL3.rx (j := x) (by omega)
      have hL4 := hL3.put x (gt xs x ||| h) HOR.out
      have d7 := hL3.cell 7 rfl
      have f7 := hL3.free 7
      have d7' := hL4.cell 7 rfl
      have f7' := hL4.free 7
      have HFN := Lib.hid (hL4.say true)
      clear hL3 hL4
      go_wp2_with fail
      go_end0
      exact ⟨rfl, by rw [HNC.out]; exact HFN.out, (hB3.set (a := ⟨gx, x, none⟩) (.inr (.inr rfl)) _).set (a := ⟨g, 7, none⟩) (.inl rfl) _⟩
    · have hne2 : gt xs x ||| h ≠ gt xs x := by
        unfold chg at hc
        rw [hmk] at hc
        simpa using hc
      rw [hmk] at cm
      have e8 : (bits .or .i64 (gt xs x : Int) (h : Int) != (gt xs x : Int)) = true := by rw [HOR.out]; simp; omega
      clear hc hmk hL hne2
      go_enter Tryz.func177, Tryz.ntmps177
      go_wp2_with fail
      go_quiet (fail)
      go_wp2_with fail
      have hL1 := HLD.out nq
      have hB1 : Tch g gm gx w (w.drewN nq) := Tch.of_below (below_drewN (Below.refl _ _) nq)
      generalize w.drewN nq = w1 at hL1 hB1 ⊢
      have d5 := hL1.cell 5 rfl
      have fm1 := hL1.rm.frozenAt x
      obtain ⟨um, cm1⟩ := own_has hL1.rm (j := x) (by omega)
      have hL2 := hL1.mark x
      have hB2 := hB1.set (a := ⟨gm, x, none⟩) (.inr (.inl rfl)) (.bool true)
      have e6 := hL2.cell 6 rfl
      have ex := own_at hL2.rx (j := x) hx (nv_get (gt_some (xs := xs) (by have := HXL.out; omega)))
      clear c5 c6 c7 f7 fm fx cm cx hL1
      go_wp2_with fail
      generalize w1.setCell ⟨gm, x, none⟩ (.bool true) = w2 at hL2 hB2 e6 ex ⊢
      go_still_tail 15, (by kernel_rfl)
      change wpList _ _ _ _ _ w2.drew
      have hL3 := hL2.below (Below.refl w2.heap.size w2).drew
      have hB3 : Tch g gm gx w w2.drew := hB2.drew
      clear hL2 hB2 e6 ex d5 fm1 cm1
      generalize w2.drew = w3 at hL3 hB3 ⊢
      have fx3 := hL3.rx.frozenAt x
      obtain ⟨ux, cx3⟩ := own_has hL3.rx (j := x) (by omega)
      have hL4 := hL3.put x (gt xs x ||| h) HOR.out
      have d7 := hL3.cell 7 rfl
      have f7 := hL3.free 7
      have d7' := hL4.cell 7 rfl
      have f7' := hL4.free 7
      have HFN := Lib.hid (hL4.say true)
      clear hL3 hL4
      go_wp2_with fail
      go_end0
      exact ⟨rfl, by rw [HNC.out]; exact HFN.out, (hB3.set (a := ⟨gx, x, none⟩) (.inr (.inr rfl)) _).set (a := ⟨g, 7, none⟩) (.inl rfl) _⟩
  · have hc0 : chg h ms xs x = false := by simpa using hc
    have hmk : mkd ms x = true := by
      unfold chg at hc0
      simp only [Bool.or_eq_false_iff, Bool.not_eq_false'] at hc0
      exact hc0.1
    have hor : gt xs x ||| h = gt xs x := by
      unfold chg at hc0
      simp only [Bool.or_eq_false_iff, bne_eq_false_iff_eq] at hc0
      exact hc0.2
    have HFIN := Lib.hid (show ∀ w', Below w.heap.size w w' → LK w' base g gm gx v k (ms.set x true) (xs.set x (gt xs x ||| h)) (new || chg h ms xs x) ∧ Tch g gm gx w w' from fun w' hb => by
      refine ⟨?_, Tch.of_below hb⟩
      have e1 : ms.set x true = ms := mks_antisymm (mks_set ms x) ⟨by simp, fun b hb => by
        rw [mkd_set (by rw [hL.mlen]; exact hx)] at hb
        split at hb
        · rename_i e; subst e; exact hmk
        · exact hb⟩
      rw [e1, hor, set_same (by rw [hL.xlen]; exact hx), hc0, Bool.or_false]
      exact hL.below hb)
    rw [hmk] at cm
    have e7 : bits .or .i64 (gt xs x : Int) (h : Int) = (gt xs x : Int) := by rw [HOR.out, hor]
    have e8 : ((gt xs x : Int) != (gt xs x : Int)) = false := by simp
    clear hc hc0 hmk hor hL hne
    go_enter Tryz.func177, Tryz.ntmps177
    go_wp2_with fail
    go_quiet (fail)
    go_wp2_with fail
    go_end0
    exact ⟨rfl, HFIN.out _ (below_drewN (Below.refl _ _) _)⟩
end Go.Proofs.YtkgoajnnkimkaaaGreat
