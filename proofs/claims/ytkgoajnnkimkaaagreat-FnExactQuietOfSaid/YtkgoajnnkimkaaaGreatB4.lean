/- Contracts of eqTerm, eqTermS, eqIns, eqInsS, eqCode on equal data. -/
import Derived.Test.YtkgoajnnkimkaaaGreatB1
import Derived.Test.YtkgoajnnkimkaaaGreatA6
import Derived.Deep.RegionHeld3
set_option linter.unusedSimpArgs false
set_option linter.unusedVariables false
namespace Go.Proofs.YtkgoajnnkimkaaaGreat
open Go.ChangeShapes Go.WideShapes Go.ChangeAt Go.RowKit

def Yes (w : World) (e : Ending) (w' : World) : Prop := e = .returned (.bool true) ∧ Below w.heap.size w w'
def EqTerm (t : Tm) : Prop := ∀ (B B' : Nat) (A A' : Option Addr) (c d : Nat) (w : World), KidsAt w B A t.kids → KidsAt w B' A' t.kids → TmB 1048576 t →
  Calls Tryz.prog 218 #[.agg #[.int .i64 t.kind, .int .i64 t.num, .string t.name, .slice A t.kids.length c], .agg #[.int .i64 t.kind, .int .i64 t.num, .string t.name, .slice A' t.kids.length d]] w (Yes w)

theorem eqTermS_of {B B' : Nat} (A A' : Option Addr) (c d : Nat) (ks : List Tm) (w : World) (hk : KidsAt w B A ks) (hj : KidsAt w B' A' ks) (hn : ks.length ≤ 1048576) (hb : ∀ i (h : i < ks.length), TmB 1048576 ks[i]) (ih : ∀ i (h : i < ks.length), EqTerm ks[i]) :
    Calls Tryz.prog 237 #[.slice A ks.length c, .slice A' ks.length d] w (Yes w) := by
  have HI := Lib.hid ih
  have HB := Lib.hid hb
  have hk0 := hk.full
  have hj0 := hj.full
  clear ih hb hk hj
  have hne : ((ks.length : Int) != ks.length) = false := by simp
  go_enter Tryz.func237, Tryz.ntmps237
  go_wp2
  go_loopw [5] (fun i wr => ∃ k : Nat, k ≤ ks.length ∧ i = .int .i64 k ∧ Below w.heap.size w wr) (fun i _ => ks.length - (intOf i).toNat)
  case atStart => exact ⟨0, Nat.zero_le _, rfl, Below.refl _ _⟩
  case round =>
    obtain ⟨k, hk, rfl, hbr⟩ := hrel
    by_cases hlt : k < ks.length
    · have hk' := hk0.below hbr
      have hj' := hj0.below hbr
      obtain ⟨ad, A1, c1, rfl, hbl, k0, k1, k2, k3, hk2⟩ := hk'.get hlt
      obtain ⟨bd, A2, c2, rfl, hbl2, l0, l1, l2, l3, hj2⟩ := hj'.get hlt
      have HC := Lib.hid (fun W (h : Below wr.heap.size wr W) => HI.out k hlt _ _ A1 A2 c1 c2 W (hk2.full.below h) (hj2.full.below h) (HB.out k hlt))
      have z1 : (0 : Int) ≤ (k : Int) := by omega
      have z2 : (k : Int) < (ks.length : Int) := by omega
      go_wp2_with fail
      go_region_held3 (fun w' => Below wr.heap.size wr w' ∧ w'.cell? (ad.add (k * 4)) = some (.int .i64 ks[k].kind) ∧ w'.cell? ⟨(ad.add (k * 4)).block, (ad.add (k * 4)).off + 1, none⟩ = some (.int .i64 ks[k].num) ∧
          w'.cell? ⟨(ad.add (k * 4)).block, (ad.add (k * 4)).off + 2, none⟩ = some (.string ks[k].name) ∧ w'.cell? ⟨(ad.add (k * 4)).block, (ad.add (k * 4)).off + 3, none⟩ = some (.slice A1 ks[k].kids.length c1) ∧
          w'.cell? (bd.add (k * 4)) = some (.int .i64 ks[k].kind) ∧ w'.cell? ⟨(bd.add (k * 4)).block, (bd.add (k * 4)).off + 1, none⟩ = some (.int .i64 ks[k].num) ∧
          w'.cell? ⟨(bd.add (k * 4)).block, (bd.add (k * 4)).off + 2, none⟩ = some (.string ks[k].name) ∧ w'.cell? ⟨(bd.add (k * 4)).block, (bd.add (k * 4)).off + 3, none⟩ = some (.slice A2 ks[k].kids.length c2))
        (first | exact ⟨(Below.refl _ _).drew, k0, k1, k2, k3, l0, l1, l2, l3⟩ | assumption | (go_split_ands; refine ⟨below_trans' (by assumption) hb1, ?_, ?_, ?_, ?_, ?_, ?_, ?_, ?_⟩ <;> exact cell_below hb1 (by assumption)))
        (first | (go_at_call 218; go_split_ands; refine (HC.out _ (by assumption)).mono ?_; rintro e w1 ⟨rfl, hb1⟩))
      rename_i W1 _ hS
      have hbS := hS.1
      clear hS k0 k1 k2 k3 l0 l1 l2 l3
      go_wp2_with fail
      go_roundw
      case rel => exact ⟨k + 1, by omega, by go_num, below_trans' hbr hbS⟩
      case measure => simp [intOf]; omega
    · go_wp2
      go_ret
      exact ⟨rfl, hbr⟩
theorem eqTerm_of (t : Tm) (B B' : Nat) (A A' : Option Addr) (c d : Nat) (w : World) (hk : KidsAt w B A t.kids) (hj : KidsAt w B' A' t.kids) (ih : ∀ W, KidsAt W W.heap.size A t.kids → KidsAt W W.heap.size A' t.kids → Calls Tryz.prog 237 #[.slice A t.kids.length c, .slice A' t.kids.length d] W (Yes W)) :
    Calls Tryz.prog 218 #[.agg #[.int .i64 t.kind, .int .i64 t.num, .string t.name, .slice A t.kids.length c], .agg #[.int .i64 t.kind, .int .i64 t.num, .string t.name, .slice A' t.kids.length d]] w (Yes w) := by
  have HI := Lib.hid ih
  have e1 : (t.kind != t.kind) = false := by simp
  have e2 : (t.num != t.num) = false := by simp
  have e3 : (!(t.name.toList == t.name.toList)) = false := by simp
  clear ih
  go_enter Tryz.func218, Tryz.ntmps218
  go_wp2_with fail
  have hbb := below_trans' (below_alloc0 w (.cells #[.int .i64 t.kind, .int .i64 t.num, .string t.name, .slice A t.kids.length c] 50)) (below_alloc0 _ (.cells #[.int .i64 t.kind, .int .i64 t.num, .string t.name, .slice A' t.kids.length d] 50))
  refine (HI.out _ (hk.full.below hbb).full (hj.full.below hbb).full).mono ?_
  rintro e w1 ⟨rfl, hb1⟩
  go_wp2_with fail
  go_ret
  exact ⟨rfl, below_trans' hbb hb1⟩
theorem eqTerm_any (t : Tm) : EqTerm t := by
  have : ∀ (n : Nat) (t : Tm), SizeOf.sizeOf t ≤ n → EqTerm t := by
    intro n
    induction n with
    | zero => intro t h; cases t; simp at h
    | succ n ih =>
      intro t h B B' A A' c d w hk hj hb
      exact eqTerm_of t B B' A A' c d w hk hj fun W h1 h2 => eqTermS_of A A' c d t.kids W h1 h2 hb.fits.2.2.2 (fun i hi => hb.kid i hi) fun i hi => ih _ (by have := sizeOf_kid i hi; omega)
  exact this _ t (Nat.le_refl _)

theorem eqIns_any (x : Is) (B B' : Nat) (A A' : Option Addr) (c d : Nat) (w : World) (hk : KidsAt w B A x.term.kids) (hj : KidsAt w B' A' x.term.kids) (hb : TmB 1048576 x.term) :
    Calls Tryz.prog 182 #[.agg #[.int .i64 x.op, .int .i64 x.arg, .int .i64 x.term.kind, .int .i64 x.term.num, .string x.term.name, .slice A x.term.kids.length c, .int .i64 x.to], .agg #[.int .i64 x.op, .int .i64 x.arg, .int .i64 x.term.kind, .int .i64 x.term.num, .string x.term.name, .slice A' x.term.kids.length d, .int .i64 x.to]] w (Yes w) := by
  have HI := Lib.hid (fun W (h1 : KidsAt W W.heap.size A x.term.kids) (h2 : KidsAt W W.heap.size A' x.term.kids) => eqTerm_any x.term _ _ A A' c d W h1 h2 hb)
  have e1 : (x.op != x.op) = false := by simp
  have e2 : (x.arg != x.arg) = false := by simp
  have e3 : (x.to != x.to) = false := by simp
  clear hb
  go_enter Tryz.func182, Tryz.ntmps182
  go_wp2_with fail
  have hb0 := below_alloc0 w (.cells #[.int .i64 x.op, .int .i64 x.arg, .int .i64 x.term.kind, .int .i64 x.term.num, .string x.term.name, .slice A x.term.kids.length c, .int .i64 x.to] 52)
  have f0 := box_cell w #[.int .i64 x.op, .int .i64 x.arg, .int .i64 x.term.kind, .int .i64 x.term.num, .string x.term.name, .slice A x.term.kids.length c, .int .i64 x.to] 52 6 rfl
  have s0 : (w.alloc (.cells #[.int .i64 x.op, .int .i64 x.arg, .int .i64 x.term.kind, .int .i64 x.term.num, .string x.term.name, .slice A x.term.kids.length c, .int .i64 x.to] 52)).heap.size = w.heap.size + 1 := by simp
  generalize w.alloc (.cells #[.int .i64 x.op, .int .i64 x.arg, .int .i64 x.term.kind, .int .i64 x.term.num, .string x.term.name, .slice A x.term.kids.length c, .int .i64 x.to] 52) = W1 at hb0 f0 s0 ⊢
  have hb1 := below_alloc0 W1 (.cells #[.int .i64 x.op, .int .i64 x.arg, .int .i64 x.term.kind, .int .i64 x.term.num, .string x.term.name, .slice A' x.term.kids.length d, .int .i64 x.to] 52)
  have f1 := box_cell W1 #[.int .i64 x.op, .int .i64 x.arg, .int .i64 x.term.kind, .int .i64 x.term.num, .string x.term.name, .slice A' x.term.kids.length d, .int .i64 x.to] 52 6 rfl
  have f0' := cell_below hb1 f0
  have hbb := below_trans' hb0 hb1
  rw [s0] at f1
  generalize W1.alloc (.cells #[.int .i64 x.op, .int .i64 x.arg, .int .i64 x.term.kind, .int .i64 x.term.num, .string x.term.name, .slice A' x.term.kids.length d, .int .i64 x.to] 52) = W2 at hb1 f1 f0' hbb ⊢
  clear hb0 hb1 f0 s0
  refine (HI.out _ (hk.full.below hbb).full (hj.full.below hbb).full).mono ?_
  rintro e w1 ⟨rfl, hb1⟩
  have g0 := cell_below hb1 f0'
  have g1 := cell_below hb1 f1
  clear f0' f1
  go_wp2_with fail
  go_ret
  exact ⟨rfl, below_trans' hbb hb1⟩

set_option maxHeartbeats 1000000 in
theorem eqInsS_any {B B' : Nat} (A A' : Option Addr) (c d : Nat) (ins : List Is) (w : World) (hk : InsAt w B A ins) (hj : InsAt w B' A' ins) (hn : ins.length ≤ 1048576) (hb : ∀ x ∈ ins, IsB 1048576 x) :
    Calls Tryz.prog 141 #[.slice A ins.length c, .slice A' ins.length d] w (Yes w) := by
  have HB := Lib.hid hb
  have hk0 := hk.full
  have hj0 := hj.full
  clear hb hk hj
  have hne : ((ins.length : Int) != ins.length) = false := by simp
  go_enter Tryz.func141, Tryz.ntmps141
  go_wp2
  go_loopw [5] (fun i wr => ∃ k : Nat, k ≤ ins.length ∧ i = .int .i64 k ∧ Below w.heap.size w wr) (fun i _ => ins.length - (intOf i).toNat)
  case atStart => exact ⟨0, Nat.zero_le _, rfl, Below.refl _ _⟩
  case round =>
    obtain ⟨k, hk, rfl, hbr⟩ := hrel
    by_cases hlt : k < ins.length
    · have hk' := hk0.below hbr
      have hj' := hj0.below hbr
      obtain ⟨ad, A1, c1, rfl, hbl, k0, k1, k2, k3, k4, k5, k6, hk2⟩ := hk'.get hlt
      obtain ⟨bd, A2, c2, rfl, hbl2, l0, l1, l2, l3, l4, l5, l6, hj2⟩ := hj'.get hlt
      have HC := Lib.hid (fun W (h : Below wr.heap.size wr W) => eqIns_any ins[k] _ _ A1 A2 c1 c2 W (hk2.full.below h) (hj2.full.below h) (HB.out _ (List.getElem_mem hlt)).term)
      have z1 : (0 : Int) ≤ (k : Int) := by omega
      have z2 : (k : Int) < (ins.length : Int) := by omega
      go_wp2_with fail
      go_region_held3 (fun w' => Below wr.heap.size wr w' ∧ w'.cell? (ad.add (k * 7)) = some (.int .i64 ins[k].op) ∧ w'.cell? ⟨(ad.add (k * 7)).block, (ad.add (k * 7)).off + 1, none⟩ = some (.int .i64 ins[k].arg) ∧
          w'.cell? ⟨(ad.add (k * 7)).block, (ad.add (k * 7)).off + 2, none⟩ = some (.int .i64 ins[k].term.kind) ∧ w'.cell? ⟨(ad.add (k * 7)).block, (ad.add (k * 7)).off + 3, none⟩ = some (.int .i64 ins[k].term.num) ∧
          w'.cell? ⟨(ad.add (k * 7)).block, (ad.add (k * 7)).off + 4, none⟩ = some (.string ins[k].term.name) ∧ w'.cell? ⟨(ad.add (k * 7)).block, (ad.add (k * 7)).off + 5, none⟩ = some (.slice A1 ins[k].term.kids.length c1) ∧ w'.cell? ⟨(ad.add (k * 7)).block, (ad.add (k * 7)).off + 6, none⟩ = some (.int .i64 ins[k].to) ∧
          w'.cell? (bd.add (k * 7)) = some (.int .i64 ins[k].op) ∧ w'.cell? ⟨(bd.add (k * 7)).block, (bd.add (k * 7)).off + 1, none⟩ = some (.int .i64 ins[k].arg) ∧
          w'.cell? ⟨(bd.add (k * 7)).block, (bd.add (k * 7)).off + 2, none⟩ = some (.int .i64 ins[k].term.kind) ∧ w'.cell? ⟨(bd.add (k * 7)).block, (bd.add (k * 7)).off + 3, none⟩ = some (.int .i64 ins[k].term.num) ∧
          w'.cell? ⟨(bd.add (k * 7)).block, (bd.add (k * 7)).off + 4, none⟩ = some (.string ins[k].term.name) ∧ w'.cell? ⟨(bd.add (k * 7)).block, (bd.add (k * 7)).off + 5, none⟩ = some (.slice A2 ins[k].term.kids.length c2) ∧ w'.cell? ⟨(bd.add (k * 7)).block, (bd.add (k * 7)).off + 6, none⟩ = some (.int .i64 ins[k].to))
        (first | exact ⟨(Below.refl _ _).drew, k0, k1, k2, k3, k4, k5, k6, l0, l1, l2, l3, l4, l5, l6⟩ | assumption | (go_split_ands; refine ⟨below_trans' (by assumption) hb1, ?_, ?_, ?_, ?_, ?_, ?_, ?_, ?_, ?_, ?_, ?_, ?_, ?_, ?_⟩ <;> exact cell_below hb1 (by assumption)))
        (first | (go_at_call 182; go_split_ands; refine (HC.out _ (by assumption)).mono ?_; rintro e w1 ⟨rfl, hb1⟩))
      rename_i W1 _ hS
      have hbS := hS.1
      clear hS k0 k1 k2 k3 k4 k5 k6 l0 l1 l2 l3 l4 l5 l6
      go_wp2_with fail
      go_roundw
      case rel => exact ⟨k + 1, by omega, by go_num, below_trans' hbr hbS⟩
      case measure => simp [intOf]; omega
    · go_wp2
      go_ret
      exact ⟨rfl, hbr⟩

/-- Two pieces of code in two new blocks. -/
def CodeBox2 (w : World) (v u : CV) (k : Cd) (W : World) : Prop :=
  Below w.heap.size w W ∧ w.heap.size + 1 < W.heap.size ∧
    (W.cell? ⟨w.heap.size, 0, none⟩ = some (.slice v.gA k.globals.length v.gc) ∧ W.cell? ⟨w.heap.size, 1, none⟩ = some (.slice v.lA k.locks.length v.lc) ∧
    W.cell? ⟨w.heap.size, 2, none⟩ = some (.slice v.pA k.procs.length v.pc) ∧ W.cell? ⟨w.heap.size, 3, none⟩ = some (.slice v.eA k.entry.length v.ec) ∧ W.cell? ⟨w.heap.size, 4, none⟩ = some (.slice v.iA k.ins.length v.ic)) ∧
    W.cell? ⟨w.heap.size + 1, 0, none⟩ = some (.slice u.gA k.globals.length u.gc) ∧ W.cell? ⟨w.heap.size + 1, 1, none⟩ = some (.slice u.lA k.locks.length u.lc) ∧
    W.cell? ⟨w.heap.size + 1, 2, none⟩ = some (.slice u.pA k.procs.length u.pc) ∧ W.cell? ⟨w.heap.size + 1, 3, none⟩ = some (.slice u.eA k.entry.length u.ec) ∧ W.cell? ⟨w.heap.size + 1, 4, none⟩ = some (.slice u.iA k.ins.length u.ic)
theorem codeBox2 (w : World) (v u : CV) (k : Cd) : CodeBox2 w v u k ((w.alloc (.cells #[.slice v.gA k.globals.length v.gc, .slice v.lA k.locks.length v.lc, .slice v.pA k.procs.length v.pc, .slice v.eA k.entry.length v.ec, .slice v.iA k.ins.length v.ic] 28)).alloc (.cells #[.slice u.gA k.globals.length u.gc, .slice u.lA k.locks.length u.lc, .slice u.pA k.procs.length u.pc, .slice u.eA k.entry.length u.ec, .slice u.iA k.ins.length u.ic] 28)) := by
  obtain ⟨h1, h2, c0, c1, c2, c3, c4⟩ := codeBox w v k
  have s : (w.alloc (.cells #[.slice v.gA k.globals.length v.gc, .slice v.lA k.locks.length v.lc, .slice v.pA k.procs.length v.pc, .slice v.eA k.entry.length v.ec, .slice v.iA k.ins.length v.ic] 28)).heap.size = w.heap.size + 1 := by simp
  generalize w.alloc (.cells #[.slice v.gA k.globals.length v.gc, .slice v.lA k.locks.length v.lc, .slice v.pA k.procs.length v.pc, .slice v.eA k.entry.length v.ec, .slice v.iA k.ins.length v.ic] 28) = W1 at *
  obtain ⟨g1, g2, d0, d1, d2, d3, d4⟩ := codeBox W1 u k
  rw [s] at d0 d1 d2 d3 d4
  exact ⟨below_trans' h1 g1, by omega, ⟨cell_below g1 c0, cell_below g1 c1, cell_below g1 c2, cell_below g1 c3, cell_below g1 c4⟩, d0, d1, d2, d3, d4⟩
theorem CodeBox2.to {w W W' : World} {v u : CV} {k : Cd} (h : CodeBox2 w v u k W) (hb : Below W.heap.size W W') : CodeBox2 w v u k W' := by
  obtain ⟨h1, h2, ⟨c0, c1, c2, c3, c4⟩, d0, d1, d2, d3, d4⟩ := h
  exact ⟨below_trans' h1 hb, Nat.lt_of_lt_of_le h2 hb.size, ⟨cell_below hb c0, cell_below hb c1, cell_below hb c2, cell_below hb c3, cell_below hb c4⟩, cell_below hb d0, cell_below hb d1, cell_below hb d2, cell_below hb d3, cell_below hb d4⟩

set_option maxHeartbeats 2000000 in
theorem eqCode_any {B B' : Nat} (v u : CV) (k : Cd) (w : World) (hk : CodeAt w B v k) (hj : CodeAt w B' u k) (hb : CdB 1048576 k) : Calls Tryz.prog 69 #[.agg #[.slice v.gA k.globals.length v.gc, .slice v.lA k.locks.length v.lc, .slice v.pA k.procs.length v.pc, .slice v.eA k.entry.length v.ec, .slice v.iA k.ins.length v.ic], .agg #[.slice u.gA k.globals.length u.gc, .slice u.lA k.locks.length u.lc, .slice u.pA k.procs.length u.pc, .slice u.eA k.entry.length u.ec, .slice u.iA k.ins.length u.ic]] w (Yes w) := by
  have HG := Lib.hid (fun W (h : CodeAt W w.heap.size v k) (g : CodeAt W w.heap.size u k) => eqStringS_same v.gA u.gA v.gc u.gc k.globals W h.g g.g (by have := hb.globals; omega))
  have HLk := Lib.hid (fun W (h : CodeAt W w.heap.size v k) (g : CodeAt W w.heap.size u k) => eqStringS_same v.lA u.lA v.lc u.lc k.locks W h.l g.l (by have := hb.locks; omega))
  have HP := Lib.hid (fun W (h : CodeAt W w.heap.size v k) (g : CodeAt W w.heap.size u k) => eqStringS_same v.pA u.pA v.pc u.pc k.procs W h.p g.p (by have := hb.procs; omega))
  have HE := Lib.hid (fun W (h : CodeAt W w.heap.size v k) (g : CodeAt W w.heap.size u k) => eqIntS_same v.eA u.eA v.ec u.ec k.entry W h.e g.e (by have := hb.entry; omega))
  have HI := Lib.hid (fun W (h : CodeAt W w.heap.size v k) (g : CodeAt W w.heap.size u k) => eqInsS_any v.iA u.iA v.ic u.ic k.ins W h.i g.i hb.ins hb.insB)
  have hk0 := hk.full
  have hj0 := hj.full
  clear hb hk hj
  go_enter Tryz.func69, Tryz.ntmps69
  have b0 := codeBox2 w v u k
  go_wp2_with fail
  generalize (w.alloc (.cells #[.slice v.gA k.globals.length v.gc, .slice v.lA k.locks.length v.lc, .slice v.pA k.procs.length v.pc, .slice v.eA k.entry.length v.ec, .slice v.iA k.ins.length v.ic] 28)).alloc (.cells #[.slice u.gA k.globals.length u.gc, .slice u.lA k.locks.length u.lc, .slice u.pA k.procs.length u.pc, .slice u.eA k.entry.length u.ec, .slice u.iA k.ins.length u.ic] 28) = W at b0 ⊢
  refine (HG.out _ (hk0.below b0.1) (hj0.below b0.1)).mono ?_
  rintro e w1 ⟨rfl, hb1⟩
  have b1 := b0.to hb1
  clear b0 hb1
  obtain ⟨q1, q2, ⟨c0, c1, c2, c3, c4⟩, d0, d1, d2, d3, d4⟩ := id b1
  go_wp2_with fail
  clear q1 q2 c0 c1 c2 c3 c4 d0 d1 d2 d3 d4
  refine (HLk.out _ (hk0.below b1.1) (hj0.below b1.1)).mono ?_
  rintro e w2 ⟨rfl, hb2⟩
  have b2 := b1.to hb2
  clear b1 hb2
  obtain ⟨q1, q2, ⟨c0, c1, c2, c3, c4⟩, d0, d1, d2, d3, d4⟩ := id b2
  go_wp2_with fail
  clear q1 q2 c0 c1 c2 c3 c4 d0 d1 d2 d3 d4
  refine (HP.out _ (hk0.below b2.1) (hj0.below b2.1)).mono ?_
  rintro e w3 ⟨rfl, hb3⟩
  have b3 := b2.to hb3
  clear b2 hb3
  obtain ⟨q1, q2, ⟨c0, c1, c2, c3, c4⟩, d0, d1, d2, d3, d4⟩ := id b3
  go_wp2_with fail
  clear q1 q2 c0 c1 c2 c3 c4 d0 d1 d2 d3 d4
  refine (HE.out _ (hk0.below b3.1) (hj0.below b3.1)).mono ?_
  rintro e w4 ⟨rfl, hb4⟩
  have b4 := b3.to hb4
  clear b3 hb4
  obtain ⟨q1, q2, ⟨c0, c1, c2, c3, c4⟩, d0, d1, d2, d3, d4⟩ := id b4
  go_wp2_with fail
  clear q1 q2 c0 c1 c2 c3 c4 d0 d1 d2 d3 d4
  refine (HI.out _ (hk0.below b4.1) (hj0.below b4.1)).mono ?_
  rintro e w5 ⟨rfl, hb5⟩
  go_wp2_with fail
  go_ret
  exact ⟨rfl, below_trans' b4.1 hb5⟩
end Go.Proofs.YtkgoajnnkimkaaaGreat
