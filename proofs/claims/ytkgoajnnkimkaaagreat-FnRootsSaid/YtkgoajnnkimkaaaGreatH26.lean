/- Contracts of the reference's l08Code and DrawCode: right code, the same for the same bytes. -/
import Derived.Test.YtkgoajnnkimkaaaGreatH25
import Derived.Test.YtkgoajnnkimkaaaGreatH23
set_option linter.unusedSimpArgs false
set_option linter.unusedVariables false
namespace Go.Proofs.YtkgoajnnkimkaaaGreat
open Go.ChangeShapes Go.WideShapes Go.ChangeAt Go.RowKit

theorem codeD_of (s : Cr) : codeD s = cdOf (namesD s) (bodiesD s) := rfl
theorem high_fr1 {w w' : World} {r lo lo' : Nat} (hl : lo' ≤ lo) (hf : Fr (· = r) w w') (hr : r < lo) : ∀ p u, (High w lo).cell? p = some u → (High w' lo').cell? p = some u :=
  high_fr hl hf fun b h e => by omega
theorem five_fr (W : World) (r : Nat) (v0 v1 v2 v3 v4 : Value) : Fr (· = r) W (((((W.setCell ⟨r, 0, none⟩ v0).setCell ⟨r, 1, none⟩ v1).setCell ⟨r, 2, none⟩ v2).setCell ⟨r, 3, none⟩ v3).setCell ⟨r, 4, none⟩ v4) :=
  ((((Fr.set (S := (· = r)) (Fr.refl _ W) (a := ⟨r, 0, none⟩) (fun _ => rfl) _).set (a := ⟨r, 1, none⟩) (fun _ => rfl) _).set (a := ⟨r, 2, none⟩) (fun _ => rfl) _).set (a := ⟨r, 3, none⟩) (fun _ => rfl) _).set (a := ⟨r, 4, none⟩) (fun _ => rfl) _
theorem five_row {W : World} {r : Nat} {x0 x1 x2 x3 x4 : Value} {t : TypeId} (h : W.heap[r]? = some (.cells #[x0, x1, x2, x3, x4] t)) (v0 v1 v2 v3 v4 : Value) :
    (((((W.setCell ⟨r, 0, none⟩ v0).setCell ⟨r, 1, none⟩ v1).setCell ⟨r, 2, none⟩ v2).setCell ⟨r, 3, none⟩ v3).setCell ⟨r, 4, none⟩ v4).heap[r]? = some (.cells #[v0, v1, v2, v3, v4] t) :=
  set_row (set_row (set_row (set_row (set_row h 0 v0) 1 v1) 2 v2) 3 v3) 4 v4
/-- Code got from a cursor in block g. -/
def CodeCur (w : World) (g : Nat) (k : Cd) (e : Ending) (w' : World) : Prop :=
  ∃ v : CV, e = .returned (.agg #[.slice v.gA k.globals.length v.gc, .slice v.lA k.locks.length v.lc, .slice v.pA k.procs.length v.pc, .slice v.eA k.entry.length v.ec, .slice v.iA k.ins.length v.ic]) ∧ CodeAt (High w' w.heap.size) w'.heap.size v k ∧ Fr (· = g) w w'
set_option maxHeartbeats 4000000 in
theorem l08Code_any (g : Nat) (s : Cr) (w : World) (hc : CurAt w g s) : Calls Tryz.prog 80 #[.pointer (some ⟨g, 0, none⟩)] w (CodeCur w g (codeD s)) := by
  have hgw := hc.lt
  have hb0 := below_alloc0 w (.cells #[.slice none 0 0, .slice none 0 0, .slice none 0 0, .slice none 0 0, .slice none 0 0] 28)
  have hh0 := heap_alloc_new w (.cells #[.slice none 0 0, .slice none 0 0, .slice none 0 0, .slice none 0 0, .slice none 0 0] 28)
  have hs0 : (w.alloc (.cells #[.slice none 0 0, .slice none 0 0, .slice none 0 0, .slice none 0 0, .slice none 0 0] 28)).heap.size = w.heap.size + 1 := by simp
  have HPR := Lib.hid (fun V (h : CurAt V g s) => l05Prog_any g s V h)
  have hc0 := hc.below hb0
  have HPG := Lib.hid (pg_drawn s)
  clear hc
  go_enter Tryz.func80, Tryz.ntmps80
  go_wp2_with fail
  generalize w.alloc (.cells #[.slice none 0 0, .slice none 0 0, .slice none 0 0, .slice none 0 0, .slice none 0 0] 28) = W at hb0 hh0 hs0 hc0 ⊢
  refine (HPR.out W hc0).mono ?_
  rintro e w1 ⟨gA, lA, pA, pc, rfl, hp1, hF1⟩
  have hh1 := (hF1.block w.heap.size (by omega) (by omega)).trans hh0
  have hs1 := hF1.size
  have HF1 := Lib.hid (show Fr (· = g) w w1 from (Fr.of_below hb0).trans hF1)
  have HCO := Lib.hid (codeOf_any (gc := 4) (lc := 3) (pc := pc) w1 hp1 HPG.out (by omega) (by omega))
  clear hp1 hF1 HPR hc0 hb0 hh0
  go_wp2_with fail
  refine HCO.out.mono ?_
  rintro e w2 ⟨v, rfl, hk, hb2⟩
  rw [← codeD_of] at hk ⊢
  have hs2 := hb2.size
  have hh2 := (hb2.block w.heap.size (by omega)).trans hh1
  have HK := Lib.hid hk
  have HB2 := Lib.hid hb2
  have hb3 := below_alloc0 w2 (.cells #[.slice v.gA (codeD s).globals.length v.gc, .slice v.lA (codeD s).locks.length v.lc, .slice v.pA (codeD s).procs.length v.pc, .slice v.eA (codeD s).entry.length v.ec, .slice v.iA (codeD s).ins.length v.ic] 28)
  have hh3 := heap_alloc_new w2 (.cells #[.slice v.gA (codeD s).globals.length v.gc, .slice v.lA (codeD s).locks.length v.lc, .slice v.pA (codeD s).procs.length v.pc, .slice v.eA (codeD s).entry.length v.ec, .slice v.iA (codeD s).ins.length v.ic] 28)
  have hh4 := (hb3.block w.heap.size (by omega)).trans hh2
  obtain ⟨o0, o5⟩ := row_facts hh4
  have x0 := o0 0 _ rfl
  have x1 := o0 1 _ rfl
  have x2 := o0 2 _ rfl
  have x3 := o0 3 _ rfl
  have x4 := o0 4 _ rfl
  have u0 := o5 0
  have u1 := o5 1
  have u2 := o5 2
  have u3 := o5 3
  have u4 := o5 4
  clear o0 o5 hk hb2 hh1 hh2 HCO hh3
  have HH4 := Lib.hid hh4
  have HB3 := Lib.hid hb3
  have HS := Lib.hid (show w.heap.size < w1.heap.size ∧ w1.heap.size ≤ w2.heap.size from ⟨by omega, hs2⟩)
  clear hh4 hb3 hs0 hs1 hs2
  generalize hkk : codeD s = k at HK HH4 HB3 x0 x1 x2 x3 x4 u0 u1 u2 u3 u4 ⊢
  have HKK := Lib.hid hkk
  clear hkk
  go_wp2_with fail
  have hfin := five_row HH4.out (.slice v.gA k.globals.length v.gc) (.slice v.lA k.locks.length v.lc) (.slice v.pA k.procs.length v.pc) (.slice v.eA k.entry.length v.ec) (.slice v.iA k.ins.length v.ic)
  refine bodyPost_ret (results_cell_row rfl _ _ _ _ _ _ _ rfl hfin Tryz.underlying28 rfl (by kernel_rfl)) rfl ?_
  have hF5 := five_fr (w2.alloc (.cells #[.slice v.gA k.globals.length v.gc, .slice v.lA k.locks.length v.lc, .slice v.pA k.procs.length v.pc, .slice v.eA k.entry.length v.ec, .slice v.iA k.ins.length v.ic] 28)) w.heap.size (.slice v.gA k.globals.length v.gc) (.slice v.lA k.locks.length v.lc) (.slice v.pA k.procs.length v.pc) (.slice v.eA k.entry.length v.ec) (.slice v.iA k.ins.length v.ic)
  have hF2 : Fr (· = w.heap.size) w2 _ := (Fr.of_below HB3.out).trans (hF5.mono (fun b _ e => e))
  have hlt := HS.out
  have hkk := HKK.out
  subst hkk
  exact ⟨v, rfl, HK.out.sub hF2.size (high_fr1 (lo := w1.heap.size) (Nat.le_of_lt hlt.1) hF2 hlt.1), (HF1.out.trans (Fr.of_below HB2.out)).past hF2 (fun b hb e => by omega)⟩
set_option maxRecDepth 100000 in
set_option maxHeartbeats 4000000 in
/-- DrawCode of the reference. -/
theorem drawCode_any {B : Nat} (b : List UInt8) (A : Option Addr) (c : Nat) (w : World) (h : Rd w B A (bytesV b)) (hn : b.length ≤ 1048576) :
    Calls Tryz.prog 12 #[.slice A b.length c] w (CodeNew w (codeD (newD b))) := by
  have hb0 := below_alloc0 w (.cells #[.slice none 0 0, .slice none 0 0, .slice none 0 0, .slice none 0 0, .slice none 0 0] 28)
  have hh0 := heap_alloc_new w (.cells #[.slice none 0 0, .slice none 0 0, .slice none 0 0, .slice none 0 0, .slice none 0 0] 28)
  have hs0 : (w.alloc (.cells #[.slice none 0 0, .slice none 0 0, .slice none 0 0, .slice none 0 0, .slice none 0 0] 28)).heap.size = w.heap.size + 1 := by simp
  have HN := Lib.hid (fun V (hV : Below w.heap.size w V) => l01New_any b A c V (h.full.below hV).full hn)
  have HC := Lib.hid (fun g V (hV : CurAt V g (newD b)) => l08Code_any g (newD b) V hV)
  clear h
  generalize codeD (newD b) = k at HC ⊢
  go_enter Tryz.func12, Tryz.ntmps12
  go_wp2_with fail
  generalize w.alloc (.cells #[.slice none 0 0, .slice none 0 0, .slice none 0 0, .slice none 0 0, .slice none 0 0] 28) = W at hb0 hh0 hs0 ⊢
  have HS0 := Lib.hid hs0
  have hw0 : w.heap.size < W.heap.size := by omega
  clear hs0
  refine (HN.out W hb0).mono ?_
  rintro e w1 ⟨rfl, hc1, hb1⟩
  have hs1 := hb1.size
  have hh1 := (hb1.block w.heap.size (by omega)).trans hh0
  have HB1 := Lib.hid (below_trans' hb0 hb1)
  clear hb1 hh0 HN hb0
  go_wp2_with fail
  refine (HC.out _ w1 hc1).mono ?_
  rintro e w2 ⟨v, rfl, hk, hF⟩
  have hs2 := hF.size
  have hg := hc1.lt
  have hh2 := (hF.block w.heap.size (by omega) (by omega)).trans hh1
  have HK := Lib.hid hk
  have HF := Lib.hid hF
  have HH2 := Lib.hid hh2
  have HS := Lib.hid (show w.heap.size + 1 = W.heap.size ∧ W.heap.size ≤ w1.heap.size ∧ w1.heap.size ≤ w2.heap.size from ⟨HS0.out.symm, hs1, hs2⟩)
  obtain ⟨o0, o5⟩ := row_facts hh2
  have x0 := o0 0 _ rfl
  have x1 := o0 1 _ rfl
  have x2 := o0 2 _ rfl
  have x3 := o0 3 _ rfl
  have x4 := o0 4 _ rfl
  have u0 := o5 0
  have u1 := o5 1
  have u2 := o5 2
  have u3 := o5 3
  have u4 := o5 4
  clear o0 o5 hk hF hh1 hh2 hc1 HS0 hs1 hs2 hg HC hw0
  go_wp2_with fail
  have hfin := five_row HH2.out (.slice v.gA k.globals.length v.gc) (.slice v.lA k.locks.length v.lc) (.slice v.pA k.procs.length v.pc) (.slice v.eA k.entry.length v.ec) (.slice v.iA k.ins.length v.ic)
  refine bodyPost_ret (results_cell_row rfl _ _ _ _ _ _ _ rfl hfin Tryz.underlying28 rfl (by kernel_rfl)) rfl ?_
  have hF5 := five_fr w2 w.heap.size (.slice v.gA k.globals.length v.gc) (.slice v.lA k.locks.length v.lc) (.slice v.pA k.procs.length v.pc) (.slice v.eA k.entry.length v.ec) (.slice v.iA k.ins.length v.ic)
  obtain ⟨h1, h2, h3⟩ := HS.out
  exact ⟨v, rfl, HK.out.sub hF5.size (high_fr1 (lo := w1.heap.size) (by omega) hF5 (by omega)), HB1.out.trans ((HF.out.below (B := w.heap.size) (by omega) (fun b hb e => by omega)).trans (hF5.below (B := w.heap.size) (by omega) (fun b hb e => by omega)))⟩
end Go.Proofs.YtkgoajnnkimkaaaGreat
