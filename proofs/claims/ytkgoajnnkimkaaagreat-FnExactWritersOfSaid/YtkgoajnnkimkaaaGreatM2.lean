/- Contract of markCode. -/
import Derived.Test.YtkgoajnnkimkaaaGreatM1
set_option linter.unusedSimpArgs false
set_option linter.unusedVariables false
namespace Go.Proofs.YtkgoajnnkimkaaaGreat
open Go.ChangeShapes Go.WideShapes Go.ChangeAt Go.RowKit

theorem KAt.mk {lo hi : Nat} {W W' : World} {g : Nat} {v : CV} {k : Cd} (h : KAt W g v k) (m : Mk lo hi W W') (hg : hi ≤ g) : KAt W' g v k := by
  have hl : g < W.heap.size := World.block_lt_of_cell? W _ h.1
  have e : ∀ j, W'.cell? ⟨g, j, none⟩ = W.cell? ⟨g, j, none⟩ := fun j => World.cell?_of_block (w := W) (m.block g hl (.inr hg))
  obtain ⟨c0, c1, c2, c3, c4⟩ := h
  exact ⟨(e 0).trans c0, (e 1).trans c1, (e 2).trans c2, (e 3).trans c3, (e 4).trans c4⟩

set_option maxHeartbeats 1000000 in
theorem markCode_any (lo hi : Nat) (v : CV) (k : Cd) (n : Nat) (w0 w : World) (hk : CodeAt (High w0 lo) hi v k) (m : Mk lo hi w0 w) (hcb : CdB 1048576 k) (hcnt : k.cnt ≤ 1048576) (hn : n ≤ 100) (hhi : hi ≤ w.heap.size) :
    Calls Tryz.prog 70 #[.agg #[.slice v.gA k.globals.length v.gc, .slice v.lA k.locks.length v.lc, .slice v.pA k.procs.length v.pc, .slice v.eA k.entry.length v.ec, .slice v.iA k.ins.length v.ic], .int .i64 n] w fun e w' => ∃ q : Nat, e = .returned (.int .i64 q) ∧ Mk lo hi w w' := by
  have hlen : k.globals.length + k.locks.length + k.procs.length + k.entry.length + insCnt k.ins ≤ 1048576 := hcnt
  have HG := Lib.hid (fun n W (m : Mk lo hi w0 W) (h : n + k.globals.length ≤ 100000000) => markStringS_m lo hi v.gA v.gc n k.globals w0 W hk.g m h)
  have HL := Lib.hid (fun n W (m : Mk lo hi w0 W) (h : n + k.locks.length ≤ 100000000) => markStringS_m lo hi v.lA v.lc n k.locks w0 W hk.l m h)
  have HP := Lib.hid (fun n W (m : Mk lo hi w0 W) (h : n + k.procs.length ≤ 100000000) => markStringS_m lo hi v.pA v.pc n k.procs w0 W hk.p m h)
  have HE := Lib.hid (fun n W (m : Mk lo hi w0 W) (h : n + k.entry.length ≤ 100000000) => markIntS_m lo hi v.eA v.ec n k.entry w0 W hk.e m h)
  have HI := Lib.hid (fun n W (m : Mk lo hi w0 W) (h : n + 6 * insCnt k.ins ≤ 100000000) => markInsS_any lo hi v.iA v.ic n k.ins w0 W hk.i m h hcb.ins hcb.insB)
  have hbx := codeBox w v k
  have HM := Lib.hid m
  clear hk hcb hcnt m
  go_enter Tryz.func70, Tryz.ntmps70
  go_wp2_with fail
  generalize w.alloc (.cells #[.slice v.gA k.globals.length v.gc, .slice v.lA k.locks.length v.lc, .slice v.pA k.procs.length v.pc, .slice v.eA k.entry.length v.ec, .slice v.iA k.ins.length v.ic] 28) = W at hbx ⊢
  have m0 : Mk lo hi w W := Mk.below hbx.1
  have hkt := kAt_of hbx
  refine (HG.out n _ (HM.out.trans m0) (by omega)).mono ?_
  rintro e w1 ⟨rfl, m1⟩
  have h1 := hkt.mk m1 hhi
  have m01 := m0.trans m1
  clear hkt m0 m1 hbx
  generalize hq1 : n + k.globals.length = n1
  have b1 : n1 ≤ 1048676 := by omega
  have HQ1 := Lib.hid hq1
  clear hq1
  obtain ⟨c0, c1, c2, c3, c4⟩ := id h1
  go_wp2_with fail
  refine (HL.out n1 _ (HM.out.trans m01) (by omega)).mono ?_
  rintro e w2 ⟨rfl, m2⟩
  have h2 := h1.mk m2 hhi
  have m02 := m01.trans m2
  clear h1 m01 m2 c0 c1 c2 c3 c4
  generalize hq2 : n1 + k.locks.length = n2
  have b2 : n2 ≤ 2097252 := by omega
  clear hq2
  obtain ⟨c0, c1, c2, c3, c4⟩ := id h2
  go_wp2_with fail
  refine (HP.out n2 _ (HM.out.trans m02) (by omega)).mono ?_
  rintro e w3 ⟨rfl, m3⟩
  have h3 := h2.mk m3 hhi
  have m03 := m02.trans m3
  clear h2 m02 m3 c0 c1 c2 c3 c4
  generalize hq3 : n2 + k.procs.length = n3
  have b3 : n3 ≤ 3145828 := by omega
  clear hq3
  obtain ⟨c0, c1, c2, c3, c4⟩ := id h3
  go_wp2_with fail
  refine (HE.out n3 _ (HM.out.trans m03) (by omega)).mono ?_
  rintro e w4 ⟨rfl, m4⟩
  have h4 := h3.mk m4 hhi
  have m04 := m03.trans m4
  clear h3 m03 m4 c0 c1 c2 c3 c4
  generalize hq4 : n3 + k.entry.length = n4
  have b4 : n4 ≤ 4194404 := by omega
  clear hq4
  obtain ⟨c0, c1, c2, c3, c4⟩ := id h4
  go_wp2_with fail
  refine (HI.out n4 _ (HM.out.trans m04) (by omega)).mono ?_
  rintro e w5 ⟨q, rfl, _, m5⟩
  go_wp2_with fail
  go_ret
  exact ⟨q, rfl, m04.trans m5⟩

theorem eqNats_same {B B' : Nat} (A A' : Option Addr) (c d : Nat) (ns : List Nat) (w : World) (ha : Rd w B A (nv ns)) (hb : Rd w B' A' (nv ns)) (hx : ns.length ≤ 1099511627776) :
    Calls Tryz.prog 68 #[.slice A ns.length c, .slice A' ns.length d] w fun e w' => e = .returned (.bool true) ∧ Below w.heap.size w w' := by
  have := eqIntS_same A A' c d (ns.map natI) w ha hb (by simpa using hx)
  simpa using this
/-- What is above is written alone. -/
theorem below_mark {w w' : World} {base : Nat} {t : TypeId} {size n : Nat} {v : Value} {xs : List Value} (ho : w.ownsRow base t size v n xs) (hg : w.grownBy w' v.ownBlock) (hb : base ≤ w.heap.size) : Below base w w' :=
  (Below.refl _ _).grown hg hb fun k hk => (ho.lt k hk).1
theorem CodeBox.at {w W W' : World} {v : CV} {k : Cd} {B : Nat} (h : CodeBox w v k W) (hb : Below B W W') (hB : w.heap.size < B) : CodeBox w v k W' := by
  obtain ⟨h1, h2, c0, c1, c2, c3, c4⟩ := h
  have e : ∀ j, W'.cell? ⟨w.heap.size, j, none⟩ = W.cell? ⟨w.heap.size, j, none⟩ := fun j => hb.cell (p := ⟨w.heap.size, j, none⟩) hB
  exact ⟨h1.trans (hb.mono (by omega)), Nat.lt_of_lt_of_le h2 hb.size, (e 0).trans c0, (e 1).trans c1, (e 2).trans c2, (e 3).trans c3, (e 4).trans c4⟩
end Go.Proofs.YtkgoajnnkimkaaaGreat
