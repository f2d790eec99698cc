/- Contracts of szIns, szInsS, szCode. -/
import Derived.Test.YtkgoajnnkimkaaaGreatB1
import Derived.Test.YtkgoajnnkimkaaaGreatA6
import Derived.Test.YtkgoajnnkimkaaaGreatA2
import Derived.Laws.Rows
set_option linter.unusedSimpArgs false
set_option linter.unusedVariables false
namespace Go.Proofs.YtkgoajnnkimkaaaGreat
open Go.ChangeShapes Go.WideShapes Go.ChangeAt Go.RowKit

theorem szIns_any {B : Nat} (x : Is) (A : Option Addr) (c left : Nat) (w : World) (hk : KidsAt w B A x.term.kids) (hb : IsB 9223372036854775807 x) (hl : left ≤ 1048576) :
    Calls Tryz.prog 180 #[.agg #[.int .i64 x.op, .int .i64 x.arg, .int .i64 x.term.kind, .int .i64 x.term.num, .string x.term.name, .slice A x.term.kids.length c, .int .i64 x.to], .int .i64 left] w (Szd w left fun r => r + x.term.cnt ≤ left ∧ IsB 1048576 x) := by
  have HS := Lib.hid (fun W (h : KidsAt W W.heap.size A x.term.kids) => szTerm_any x.term _ A c left W h hb.term hl)
  have HT := Lib.hid (show TmB 1048576 x.term → IsB 1048576 x from fun h => ⟨hb.op, hb.arg, h, hb.to⟩)
  clear hb
  go_enter Tryz.func180, Tryz.ntmps180
  go_wp2_with fail
  refine (HS.out _ (hk.full.below (below_alloc0 _ _)).full).mono ?_
  rintro e w' ⟨hb1, rfl | ⟨r', rfl, hr', hcn, hok⟩⟩
  · go_wp2_with fail
    go_ret
    exact ⟨below_trans' (below_alloc0 _ _) hb1, .inl rfl⟩
  · have hnn : ¬ ((r' : Int) < 0) := by omega
    go_wp2_with fail
    go_ret
    exact ⟨below_trans' (below_alloc0 _ _) hb1, .inr ⟨r', rfl, by omega, hcn, HT.out hok⟩⟩

theorem szInsS_any {B : Nat} (A : Option Addr) (c left : Nat) (ins : List Is) (w : World) (hk : InsAt w B A ins) (hn : ins.length ≤ 9223372036854775807) (hb : ∀ x ∈ ins, IsB 9223372036854775807 x) (hl : left ≤ 1048576) :
    Calls Tryz.prog 136 #[.slice A ins.length c, .int .i64 left] w (Szd w left fun r => r + insCnt ins ≤ left ∧ ∀ x ∈ ins, IsB 1048576 x) := by
  have HB := Lib.hid hb
  clear hb
  go_enter Tryz.func136, Tryz.ntmps136
  by_cases hle : ins.length ≤ left
  · have hle' : ¬ ((left : Int) - ins.length < 0) := by omega
    go_wp2
    go_loopw [1, 5] (fun q i wr => ∃ (j r : Nat), j ≤ ins.length ∧ i = .int .i64 j ∧ q = .int .i64 r ∧ r + insCnt (ins.take j) + (ins.length - j) ≤ left ∧ (∀ x ∈ ins.take j, IsB 1048576 x) ∧ Below w.heap.size w wr) (fun _ i _ => ins.length - (intOf i).toNat)
    case atStart => exact ⟨0, left - ins.length, Nat.zero_le _, rfl, by go_num, by simp [insCnt]; omega, by simp, Below.refl _ _⟩
    case round =>
      obtain ⟨j, r, hj, rfl, rfl, hr, hag, hbr⟩ := hrel
      have HA := Lib.hid hag
      clear hag
      by_cases hlt : j < ins.length
      · have hk' := hk.full.below hbr
        obtain ⟨ad, A', c', rfl, hbl, k0, k1, k2, k3, k4, k5, k6, hk2⟩ := hk'.get hlt
        go_wp2_with fail
        refine (szIns_any ins[j] A' c' r _ hk2 (HB.out _ (List.getElem_mem hlt)) (by omega)).mono ?_
        rintro e w' ⟨hb1, rfl | ⟨r', rfl, hr', hcn, hok⟩⟩
        · go_wp2_with fail
          go_ret
          exact ⟨below_trans' hbr hb1, .inl rfl⟩
        · have hnn : ¬ ((r' : Int) < 0) := by omega
          go_wp2_with fail
          go_roundw
          case rel =>
            refine ⟨j + 1, r', by omega, by go_num, rfl, by rw [insCnt_take hlt]; omega, ?_, below_trans' hbr hb1⟩
            intro x hx
            rw [List.take_succ_eq_append_getElem hlt] at hx
            rcases List.mem_append.1 hx with h | h
            · exact HA.out x h
            · rw [List.mem_singleton.1 h]; exact hok
          case measure => simp [intOf]; omega
      · go_wp2
        go_ret
        have := HA.out
        rw [List.take_of_length_le (by omega)] at hr this
        exact ⟨hbr, .inr ⟨r, rfl, by omega, by omega, this⟩⟩
  · have hle' : ((left : Int) - ins.length < 0) := by omega
    go_wp2
    go_ret
    exact ⟨Below.refl _ _, .inl rfl⟩

theorem lawBox (w : World) (v : CV) (k : Cd) : CodeBox w v k (w.alloc (.cells #[.slice v.gA k.globals.length v.gc, .slice v.lA k.locks.length v.lc, .slice v.pA k.procs.length v.pc, .slice v.eA k.entry.length v.ec, .slice v.iA k.ins.length v.ic] 55)) :=
  ⟨below_alloc0 _ _, alloc_size _ _, box_cell _ _ _ 0 rfl, box_cell _ _ _ 1 rfl, box_cell _ _ _ 2 rfl, box_cell _ _ _ 3 rfl, box_cell _ _ _ 4 rfl⟩

set_option maxHeartbeats 2000000 in
theorem szCode_any {B : Nat} (v : CV) (k : Cd) (left : Nat) (w : World) (hk : CodeAt w B v k) (hb : CdB 9223372036854775807 k) (hl : left ≤ 1048576) :
    Calls Tryz.prog 64 #[.agg #[.slice v.gA k.globals.length v.gc, .slice v.lA k.locks.length v.lc, .slice v.pA k.procs.length v.pc, .slice v.eA k.entry.length v.ec, .slice v.iA k.ins.length v.ic], .int .i64 left] w (Szd w left fun r => r + k.cnt ≤ left ∧ CdB 1048576 k) := by
  have HG := Lib.hid (fun l (hl : l ≤ 1048576) W (h : CodeAt W W.heap.size v k) => szStringS_any v.gA v.gc k.globals l W h.g hb.globals hb.globalsS hl)
  have HLk := Lib.hid (fun l (hl : l ≤ 1048576) W (h : CodeAt W W.heap.size v k) => szStringS_any v.lA v.lc k.locks l W h.l hb.locks hb.locksS hl)
  have HP := Lib.hid (fun l (hl : l ≤ 1048576) W (h : CodeAt W W.heap.size v k) => szStringS_any v.pA v.pc k.procs l W h.p hb.procs hb.procsS hl)
  have HE := Lib.hid (fun l (hl : l ≤ 1048576) W => szIntS_any v.eA v.ec k.entry.length l W hb.entry hl)
  have HI := Lib.hid (fun l (hl : l ≤ 1048576) W (h : CodeAt W W.heap.size v k) => szInsS_any v.iA v.ic l k.ins W h.i hb.ins hb.insB hl)
  have HF := Lib.hid hb.entryF
  have hk0 := hk.full.below (below_alloc0 w (.cells #[.slice v.gA k.globals.length v.gc, .slice v.lA k.locks.length v.lc, .slice v.pA k.procs.length v.pc, .slice v.eA k.entry.length v.ec, .slice v.iA k.ins.length v.ic] 55))
  clear hb hk
  go_enter Tryz.func64, Tryz.ntmps64
  have hbx := lawBox w v k
  go_wp2_with fail
  generalize w.alloc (.cells #[.slice v.gA k.globals.length v.gc, .slice v.lA k.locks.length v.lc, .slice v.pA k.procs.length v.pc, .slice v.eA k.entry.length v.ec, .slice v.iA k.ins.length v.ic] 55) = W at hbx hk0 ⊢
  refine (HG.out left hl _ hk0.full).mono ?_
  rintro e w1 ⟨hb1, rfl | ⟨r1, rfl, hr1, hc1, hs1⟩⟩
  · go_wp2_with fail
    go_ret
    exact ⟨below_trans' hbx.1 hb1, .inl rfl⟩
  have hk1 := hk0.full.below hb1
  have hbx1 := hbx.to hb1
  clear hk0 hbx hb1
  have hn1 : ¬ ((r1 : Int) < 0) := by omega
  obtain ⟨hbw, hsz, c0, c1, c2, c3, c4⟩ := id hbx1
  go_wp2_with fail
  refine (HLk.out r1 (by omega) _ hk1.full).mono ?_
  clear hbw hsz c0 c1 c2 c3 c4
  rintro e w2 ⟨hb2, rfl | ⟨r2, rfl, hr2, hc2, hs2⟩⟩
  · go_wp2_with fail
    go_ret
    exact ⟨below_trans' hbx1.1 hb2, .inl rfl⟩
  have hk2 := hk1.full.below hb2
  have hbx2 := hbx1.to hb2
  clear hk1 hbx1 hb2
  have hn2 : ¬ ((r2 : Int) < 0) := by omega
  obtain ⟨hbw, hsz, c0, c1, c2, c3, c4⟩ := id hbx2
  go_wp2_with fail
  refine (HP.out r2 (by omega) _ hk2.full).mono ?_
  clear hbw hsz c0 c1 c2 c3 c4
  rintro e w3 ⟨hb3, rfl | ⟨r3, rfl, hr3, hc3, hs3⟩⟩
  · go_wp2_with fail
    go_ret
    exact ⟨below_trans' hbx2.1 hb3, .inl rfl⟩
  have hk3 := hk2.full.below hb3
  have hbx3 := hbx2.to hb3
  clear hk2 hbx2 hb3
  have hn3 : ¬ ((r3 : Int) < 0) := by omega
  obtain ⟨hbw, hsz, c0, c1, c2, c3, c4⟩ := id hbx3
  go_wp2_with fail
  refine (HE.out r3 (by omega) _).mono ?_
  clear hbw hsz c0 c1 c2 c3 c4
  rintro e w4 ⟨hb4, rfl | ⟨r4, rfl, hr4, hc4⟩⟩
  · go_wp2_with fail
    go_ret
    exact ⟨below_trans' hbx3.1 hb4, .inl rfl⟩
  have hk4 := hk3.full.below hb4
  have hbx4 := hbx3.to hb4
  clear hk3 hbx3 hb4
  have hn4 : ¬ ((r4 : Int) < 0) := by omega
  obtain ⟨hbw, hsz, c0, c1, c2, c3, c4⟩ := id hbx4
  go_wp2_with fail
  refine (HI.out r4 (by omega) _ hk4.full).mono ?_
  clear hbw hsz c0 c1 c2 c3 c4
  rintro e w5 ⟨hb5, rfl | ⟨r5, rfl, hr5, hc5, hs5⟩⟩
  · go_wp2_with fail
    go_ret
    exact ⟨below_trans' hbx4.1 hb5, .inl rfl⟩
  have hn5 : ¬ ((r5 : Int) < 0) := by omega
  go_wp2_with fail
  go_ret
  have hge := insCnt_ge k.ins
  exact ⟨below_trans' hbx4.1 hb5, .inr ⟨r5, rfl, by omega, by unfold Cd.cnt; omega, ⟨by omega, by omega, by omega, by omega, by omega, fun s h => by have := hs1 s h; omega, fun s h => by have := hs2 s h; omega, fun s h => by have := hs3 s h; omega, HF.out, hs5⟩⟩⟩
end Go.Proofs.YtkgoajnnkimkaaaGreat
/- Contracts of toTerm, toTermS, toIns, toInsS, toCode. -/
set_option linter.unusedSimpArgs false
set_option linter.unusedVariables false
namespace Go.Proofs.YtkgoajnnkimkaaaGreat
open Go.ChangeShapes Go.WideShapes Go.ChangeAt Go.RowKit

theorem info_term : (Tryz.prog.info? 50).map (fun i => (i.zero, i.size, i.bytes)) = some (some (.agg #[.int .i64 0, .int .i64 0, .string ⟨#[]⟩, .slice none 0 0]), 4, 56) := by kernel_rfl

/-- What toTermS answers. -/
def KidsNew (w : World) (ks : List Tm) (e : Ending) (w' : World) : Prop :=
  ∃ A, e = .returned (.slice A ks.length ks.length) ∧ KidsAt (High w' w.heap.size) w'.heap.size A ks ∧ Below w.heap.size w w'
/-- What toTerm answers. -/
def TmNew (w : World) (t : Tm) (e : Ending) (w' : World) : Prop :=
  ∃ A, e = .returned (.agg #[.int .i64 t.kind, .int .i64 t.num, .string t.name, .slice A t.kids.length t.kids.length]) ∧ KidsAt (High w' w.heap.size) w'.heap.size A t.kids ∧ Below w.heap.size w w'
def ToTerm (t : Tm) : Prop := ∀ (B : Nat) (A : Option Addr) (c : Nat) (w : World), KidsAt w B A t.kids → TmB 1048576 t →
  Calls Tryz.prog 217 #[.agg #[.int .i64 t.kind, .int .i64 t.num, .string t.name, .slice A t.kids.length c]] w (TmNew w t)

theorem row_facts {w : World} {g : Nat} {cs : Array Value} {t : TypeId} (h : w.heap[g]? = some (.cells cs t)) : (∀ j v, cs[j]? = some v → w.cell? ⟨g, j, none⟩ = some v) ∧ ∀ j, w.frozen? ⟨g, j, none⟩ = false :=
  ⟨fun j v hv => by rw [cell_of_row _ _ _ _ _ _ h]; exact hv, fun j => frozen_of_row w g j cs t h⟩

theorem set_row {w : World} {g : Nat} {cs : Array Value} {t : TypeId} {fr : Nat × Nat} (h : w.heap[g]? = some (.cells cs t fr)) (j : Nat) (v : Value) : (w.setCell ⟨g, j, none⟩ v).heap[g]? = some (.cells (cs.setIfInBounds j v) t fr) := by
  unfold World.setCell
  simp [Array.getElem?_modify, h]
theorem set_row_other {w : World} {g : Nat} {o : Obj} (h : w.heap[g]? = some o) {a : Addr} (hne : g ≠ a.block) (v : Value) : (w.setCell a v).heap[g]? = some o := (Below.heap_setCell w a v g hne).trans h

theorem toTerm_of (t : Tm) (B : Nat) (A : Option Addr) (c : Nat) (w : World) (hk : KidsAt w B A t.kids) (ih : ∀ W, KidsAt W W.heap.size A t.kids → Calls Tryz.prog 236 #[.slice A t.kids.length c] W (KidsNew W t.kids)) :
    Calls Tryz.prog 217 #[.agg #[.int .i64 t.kind, .int .i64 t.num, .string t.name, .slice A t.kids.length c]] w (TmNew w t) := by
  have HI := Lib.hid ih
  clear ih
  go_enter Tryz.func217, Tryz.ntmps217
  go_wp2_with fail
  have hB : Below w.heap.size w ((w.alloc (.cells #[.int .i64 t.kind, .int .i64 t.num, .string t.name, .slice A t.kids.length c] 143)).alloc (.cells #[.int .i64 0, .int .i64 0, .string ⟨#[]⟩, .slice none 0 0] 50)) := below_trans' (below_alloc0 _ _) (below_alloc0 _ _)
  have hs : ((w.alloc (.cells #[.int .i64 t.kind, .int .i64 t.num, .string t.name, .slice A t.kids.length c] 143)).alloc (.cells #[.int .i64 0, .int .i64 0, .string ⟨#[]⟩, .slice none 0 0] 50)).heap.size = w.heap.size + 1 + 1 := by simp
  have hh : ((w.alloc (.cells #[.int .i64 t.kind, .int .i64 t.num, .string t.name, .slice A t.kids.length c] 143)).alloc (.cells #[.int .i64 0, .int .i64 0, .string ⟨#[]⟩, .slice none 0 0] 50)).heap[w.heap.size + 1]? = some (.cells #[.int .i64 0, .int .i64 0, .string ⟨#[]⟩, .slice none 0 0] 50) := by
    have := heap_alloc_new (w.alloc (.cells #[.int .i64 t.kind, .int .i64 t.num, .string t.name, .slice A t.kids.length c] 143)) (.cells #[.int .i64 0, .int .i64 0, .string ⟨#[]⟩, .slice none 0 0] 50)
    simpa using this
  generalize (w.alloc (.cells #[.int .i64 t.kind, .int .i64 t.num, .string t.name, .slice A t.kids.length c] 143)).alloc (.cells #[.int .i64 0, .int .i64 0, .string ⟨#[]⟩, .slice none 0 0] 50) = W at hB hs hh ⊢
  have hb3 := below_alloc0 W (.cells #[.int .i64 t.kind, .int .i64 t.num, .string t.name, .slice none 0 0] 50)
  have hs3 : (W.alloc (.cells #[.int .i64 t.kind, .int .i64 t.num, .string t.name, .slice none 0 0] 50)).heap.size = w.heap.size + 1 + 1 + 1 := by simp [hs]
  have hh3 := heap_alloc_new W (.cells #[.int .i64 t.kind, .int .i64 t.num, .string t.name, .slice none 0 0] 50)
  have hh2 := (hb3.block (w.heap.size + 1) (by omega)).trans hh
  rw [hs] at hh3
  have hBB := below_trans' hB hb3
  generalize W.alloc (.cells #[.int .i64 t.kind, .int .i64 t.num, .string t.name, .slice none 0 0] 50) = W3 at hb3 hs3 hh3 hh2 hBB ⊢
  clear hB hs hh hb3
  refine (HI.out _ (hk.full.below hBB).full).mono ?_
  rintro e w' ⟨A1, rfl, hk1, hb1⟩
  have hh4 := (hb1.block (w.heap.size + 1) (by omega)).trans hh2
  have hh5 := (hb1.block (w.heap.size + 1 + 1) (by omega)).trans hh3
  have hsz := hb1.size
  clear hh2 hh3 HI hk
  obtain ⟨p4, q4⟩ := row_facts hh4
  obtain ⟨p5, q5⟩ := row_facts hh5
  have p40 := p4 0 _ rfl
  have p41 := p4 1 _ rfl
  have p42 := p4 2 _ rfl
  have p43 := p4 3 _ rfl
  have p50 := p5 0 _ rfl
  have p51 := p5 1 _ rfl
  have p52 := p5 2 _ rfl
  have p53 := p5 3 _ rfl
  have q40 := q4 0
  have q41 := q4 1
  have q42 := q4 2
  have q43 := q4 3
  have q53 := q5 3
  clear p4 q4 p5 q5 hh5
  have HH := Lib.hid hh4
  clear hh4
  go_wp2_with fail
  have hfin := set_row (set_row (set_row (set_row (set_row_other HH.out (a := ⟨w.heap.size + 1 + 1, 3, none⟩) (by show w.heap.size + 1 ≠ w.heap.size + 1 + 1; omega) (.slice A1 t.kids.length t.kids.length)) 0 (.int .i64 t.kind)) 1 (.int .i64 t.num)) 2 (.string t.name)) 3 (.slice A1 t.kids.length t.kids.length)
  refine bodyPost_ret (results_cell_row rfl _ _ _ _ _ _ _ rfl hfin Tryz.underlying50 rfl (by kernel_rfl)) rfl ?_
  refine ⟨A1, rfl, hk1.sub (by simp) ?_, ?_⟩
  · intro p u hp
    have h1 : w.heap.size + 1 < W3.heap.size := by omega
    have h2 : w.heap.size + 1 + 1 < W3.heap.size := by omega
    exact high_mono (lo := W3.heap.size) (by omega) p u (high_set (Nat.le_refl _) h1 _ p u (high_set (Nat.le_refl _) h1 _ p u (high_set (Nat.le_refl _) h1 _ p u (high_set (Nat.le_refl _) h1 _ p u (high_set (Nat.le_refl _) h2 _ p u hp)))))
  · have h0 := below_trans' hBB hb1
    exact ((((h0.setCell (by show w.heap.size ≤ w.heap.size + 1 + 1; omega) _).setCell (by show w.heap.size ≤ w.heap.size + 1; omega) _).setCell (by show w.heap.size ≤ w.heap.size + 1; omega) _).setCell (by show w.heap.size ≤ w.heap.size + 1; omega) _).setCell (by show w.heap.size ≤ w.heap.size + 1; omega) _

section
variable (w : World) {ops : Array Oper} {rest : List Oper} {o : Oper} {a : Act} {Q : Exit → Act → World → Prop}
/-- make([]Term, n). -/
theorem make_terms (hg : o.guard = none) (l c : Operand) (hop : o.op = Op.makeSlice 48 l c) (n : Nat) (hl : a.eval l = .int .i64 (n : Int)) (hc : a.eval c = .int .i64 (n : Int)) (hn : n ≤ 1048576)
    (hK : ∀ w' xs, w'.ownsRow w.heap.size 50 4 (.slice (some ⟨w.heap.size, 0, none⟩) n n) n xs → Below w.heap.size w w' →
      wpList Tryz.prog ops Q rest (a.put o.dst (.slice (some ⟨w.heap.size, 0, none⟩) n n)) w') : wpList Tryz.prog ops Q (o :: rest) a w := by
  obtain ⟨i0, hi, hz0, hz1, hz2⟩ := info_parts info_term
  refine wpList_make_full w hg l c _ hop w.heap.size _ i0 _ 4 Tryz.underlying48 hi hz0 hz1 _ _ _ _ n hl hc rfl rfl (by rw [hz2]; omega) (by unfold maxLen; omega) (Nat.le_refl _) ?_
  intro w' h1 h2
  exact hK w' _ h1 ((Below.refl _ _).grown h2 (Nat.le_refl _) (by simp))
end

theorem toTermS_of {B : Nat} (A : Option Addr) (c : Nat) (ks : List Tm) (w : World) (hk : KidsAt w B A ks) (hn : ks.length ≤ 1048576) (hb : ∀ i (h : i < ks.length), TmB 1048576 ks[i]) (ih : ∀ i (h : i < ks.length), ToTerm ks[i]) :
    Calls Tryz.prog 236 #[.slice A ks.length c] w (KidsNew w ks) := by
  have HI := Lib.hid ih
  have HB := Lib.hid hb
  have hk0 := hk.full
  clear ih hb hk
  go_enter Tryz.func236, Tryz.ntmps236
  go_wp2_with (at_make; refine make_terms _ rfl _ _ rfl ks.length rfl rfl hn ?_; intro w1 xs0 hown hb)
  go_loopw [4] (fun i wr => ∃ (k : Nat) (ys : List Value) (cs : Nat → List Value), k ≤ ks.length ∧ i = .int .i64 k ∧ wr.ownsRow w.heap.size 50 4 (.slice (some ⟨w.heap.size, 0, none⟩) ks.length ks.length) ks.length ys ∧
    RowsAt ys 4 cs k ∧ (∀ i (h : i < ks.length), i < k → TmAt (High wr (w.heap.size + 1)) wr.heap.size ks[i] (cs i)) ∧ Below w.heap.size w wr ∧ w.heap.size + 1 ≤ wr.heap.size) (fun i _ => ks.length - (intOf i).toNat)
  case atStart => exact ⟨0, _, fun _ => [], Nat.zero_le _, rfl, hown, RowsAt.zero _ _ _, fun i _ hi => by omega, hb, (hown.lt _ rfl).2⟩
  case round =>
    obtain ⟨k, ys, cs, hk, rfl, ho, hag, htm, hbr, hsz⟩ := hrel
    clear hown hb
    have HT := Lib.hid htm
    have HA := Lib.hid hag
    clear htm hag
    by_cases hlt : k < ks.length
    · have hk' := hk0.below hbr
      obtain ⟨ad, A', c', rfl, hbl, k0, k1, k2, k3, hk2⟩ := hk'.get hlt
      go_wp2_with fail
      refine (HI.out k hlt _ A' c' _ hk2 (HB.out k hlt)).mono ?_
      rintro e w2 ⟨A2, rfl, hk3, hb2⟩
      have ho2 := own_below ho hb2
      obtain ⟨u0, hu0⟩ := own_has ho2 (j := k * 4 + 0) (by omega)
      obtain ⟨u1, hu1⟩ := own_has ho2 (j := k * 4 + 1) (by omega)
      obtain ⟨u2, hu2⟩ := own_has ho2 (j := k * 4 + 2) (by omega)
      obtain ⟨u3, hu3⟩ := own_has ho2 (j := k * 4 + 3) (by omega)
      have hf0 := ho2.frozenAt (k * 4 + 0)
      have hf1 := ho2.frozenAt (k * 4 + 1)
      have hf2 := ho2.frozenAt (k * 4 + 2)
      have hf3 := ho2.frozenAt (k * 4 + 3)
      rw [Nat.add_zero] at hu0 hf0
      go_wp2_with fail
      obtain ⟨s1, s2⟩ := setL_own [.int .i64 ks[k].kind, .int .i64 ks[k].num, .string ks[k].name, .slice A2 ks[k].kids.length ks[k].kids.length] w2 ys (k * 4) ho2
      have s3 := s2.size
      have s4 := hb2.size
      have hnew : TmAt (High w2 (w.heap.size + 1)) w2.heap.size ks[k] [.int .i64 ks[k].kind, .int .i64 ks[k].num, .string ks[k].name, .slice A2 ks[k].kids.length ks[k].kids.length] := TmAt.make (hk3.sub (Nat.le_refl _) (high_mono hsz))
      go_roundw
      case rel =>
        refine ⟨k + 1, _, _, by omega, by go_num, s1, HA.out.put _ rfl ho2.1 hlt, ?_, (below_trans' hbr hb2).grown s2 (Nat.le_trans hbr.size s4) (fun k hk => by cases hk; exact Nat.le_refl _), Nat.le_trans (Nat.le_trans hsz s4) s3⟩
        intro i h hi
        by_cases e : i = k
        · subst e
          rw [if_pos rfl]
          exact hnew.sub s3 (high_grown (Nat.le_refl _) s2 (by omega))
        · rw [if_neg e]
          exact (HT.out i h (by omega)).sub (Nat.le_trans s4 s3) fun p u hp => high_grown (Nat.le_refl _) s2 (by omega) p u (high_below (Nat.le_refl _) hb2 p u hp)
      case measure => simp [intOf]; omega
    · go_wp2
      go_ret
      obtain rfl : k = ks.length := by omega
      exact ⟨_, rfl, ⟨cs, fun i hi => HA.out.row (own_high ho) hi, fun i hi => (HT.out i hi hi).sub (Nat.le_refl _) (high_mono (by omega))⟩, hbr⟩
theorem toTerm_any (t : Tm) : ToTerm t := by
  have : ∀ (n : Nat) (t : Tm), SizeOf.sizeOf t ≤ n → ToTerm t := by
    intro n
    induction n with
    | zero => intro t h; cases t; simp at h
    | succ n ih =>
      intro t h B A c w hk hb
      exact toTerm_of t B A c w hk fun W hW => toTermS_of A c t.kids W hW hb.fits.2.2.2 (fun i hi => hb.kid i hi) fun i hi => ih _ (by have := sizeOf_kid i hi; omega)
  exact this _ t (Nat.le_refl _)

theorem info_ins : (Tryz.prog.info? 52).map (fun i => (i.zero, i.size, i.bytes)) = some (some (.agg #[.int .i64 0, .int .i64 0, .int .i64 0, .int .i64 0, .string ⟨#[]⟩, .slice none 0 0, .int .i64 0]), 7, 80) := by kernel_rfl
/-- What toIns answers. -/
def InsNew (w : World) (x : Is) (e : Ending) (w' : World) : Prop :=
  ∃ A, e = .returned (.agg #[.int .i64 x.op, .int .i64 x.arg, .int .i64 x.term.kind, .int .i64 x.term.num, .string x.term.name, .slice A x.term.kids.length x.term.kids.length, .int .i64 x.to]) ∧ KidsAt (High w' w.heap.size) w'.heap.size A x.term.kids ∧ Below w.heap.size w w'

set_option maxHeartbeats 1000000 in
theorem toIns_any (x : Is) (B : Nat) (A : Option Addr) (c : Nat) (w : World) (hk : KidsAt w B A x.term.kids) (hb : TmB 1048576 x.term) :
    Calls Tryz.prog 181 #[.agg #[.int .i64 x.op, .int .i64 x.arg, .int .i64 x.term.kind, .int .i64 x.term.num, .string x.term.name, .slice A x.term.kids.length c, .int .i64 x.to]] w (InsNew w x) := by
  have HI := Lib.hid (fun W (h : KidsAt W W.heap.size A x.term.kids) => toTerm_any x.term _ A c W h hb)
  clear hb
  go_enter Tryz.func181, Tryz.ntmps181
  go_wp2_with fail
  have hB : Below w.heap.size w ((w.alloc (.cells #[.int .i64 x.op, .int .i64 x.arg, .int .i64 x.term.kind, .int .i64 x.term.num, .string x.term.name, .slice A x.term.kids.length c, .int .i64 x.to] 145)).alloc (.cells #[.int .i64 0, .int .i64 0, .int .i64 0, .int .i64 0, .string ⟨#[]⟩, .slice none 0 0, .int .i64 0] 52)) := below_trans' (below_alloc0 _ _) (below_alloc0 _ _)
  have hs : ((w.alloc (.cells #[.int .i64 x.op, .int .i64 x.arg, .int .i64 x.term.kind, .int .i64 x.term.num, .string x.term.name, .slice A x.term.kids.length c, .int .i64 x.to] 145)).alloc (.cells #[.int .i64 0, .int .i64 0, .int .i64 0, .int .i64 0, .string ⟨#[]⟩, .slice none 0 0, .int .i64 0] 52)).heap.size = w.heap.size + 1 + 1 := by simp
  have hh : ((w.alloc (.cells #[.int .i64 x.op, .int .i64 x.arg, .int .i64 x.term.kind, .int .i64 x.term.num, .string x.term.name, .slice A x.term.kids.length c, .int .i64 x.to] 145)).alloc (.cells #[.int .i64 0, .int .i64 0, .int .i64 0, .int .i64 0, .string ⟨#[]⟩, .slice none 0 0, .int .i64 0] 52)).heap[w.heap.size + 1]? = some (.cells #[.int .i64 0, .int .i64 0, .int .i64 0, .int .i64 0, .string ⟨#[]⟩, .slice none 0 0, .int .i64 0] 52) := by
    have := heap_alloc_new (w.alloc (.cells #[.int .i64 x.op, .int .i64 x.arg, .int .i64 x.term.kind, .int .i64 x.term.num, .string x.term.name, .slice A x.term.kids.length c, .int .i64 x.to] 145)) (.cells #[.int .i64 0, .int .i64 0, .int .i64 0, .int .i64 0, .string ⟨#[]⟩, .slice none 0 0, .int .i64 0] 52)
    simpa using this
  have hbox : ((w.alloc (.cells #[.int .i64 x.op, .int .i64 x.arg, .int .i64 x.term.kind, .int .i64 x.term.num, .string x.term.name, .slice A x.term.kids.length c, .int .i64 x.to] 145)).alloc (.cells #[.int .i64 0, .int .i64 0, .int .i64 0, .int .i64 0, .string ⟨#[]⟩, .slice none 0 0, .int .i64 0] 52)).cell? ⟨w.heap.size, 6, none⟩ = some (.int .i64 x.to) :=
    cell_below (below_alloc0 _ _) (box_cell _ _ _ 6 rfl)
  generalize (w.alloc (.cells #[.int .i64 x.op, .int .i64 x.arg, .int .i64 x.term.kind, .int .i64 x.term.num, .string x.term.name, .slice A x.term.kids.length c, .int .i64 x.to] 145)).alloc (.cells #[.int .i64 0, .int .i64 0, .int .i64 0, .int .i64 0, .string ⟨#[]⟩, .slice none 0 0, .int .i64 0] 52) = W at hB hs hh hbox ⊢
  have hb3 := below_alloc0 W (.cells #[.int .i64 x.op, .int .i64 x.arg, .int .i64 0, .int .i64 0, .string ⟨#[]⟩, .slice none 0 0, .int .i64 0] 52)
  have hs3 : (W.alloc (.cells #[.int .i64 x.op, .int .i64 x.arg, .int .i64 0, .int .i64 0, .string ⟨#[]⟩, .slice none 0 0, .int .i64 0] 52)).heap.size = w.heap.size + 1 + 1 + 1 := by simp [hs]
  have hh3 := heap_alloc_new W (.cells #[.int .i64 x.op, .int .i64 x.arg, .int .i64 0, .int .i64 0, .string ⟨#[]⟩, .slice none 0 0, .int .i64 0] 52)
  have hh2 := (hb3.block (w.heap.size + 1) (by omega)).trans hh
  have hbox3 := cell_below hb3 hbox
  rw [hs] at hh3
  have hBB := below_trans' hB hb3
  generalize W.alloc (.cells #[.int .i64 x.op, .int .i64 x.arg, .int .i64 0, .int .i64 0, .string ⟨#[]⟩, .slice none 0 0, .int .i64 0] 52) = W3 at hb3 hs3 hh3 hh2 hBB hbox3 ⊢
  clear hB hs hh hb3 hbox
  refine (HI.out _ (hk.full.below hBB).full).mono ?_
  rintro e w' ⟨A1, rfl, hk1, hb1⟩
  have hh4 := (hb1.block (w.heap.size + 1) (by omega)).trans hh2
  have hh5 := (hb1.block (w.heap.size + 1 + 1) (by omega)).trans hh3
  have hbox4 := cell_below hb1 hbox3
  have hsz := hb1.size
  clear hh2 hh3 HI hk hbox3
  obtain ⟨p4, q4⟩ := row_facts hh4
  obtain ⟨p5, q5⟩ := row_facts hh5
  have p40 := p4 0 _ rfl
  have p41 := p4 1 _ rfl
  have p42 := p4 2 _ rfl
  have p43 := p4 3 _ rfl
  have p44 := p4 4 _ rfl
  have p45 := p4 5 _ rfl
  have p46 := p4 6 _ rfl
  have p50 := p5 0 _ rfl
  have p51 := p5 1 _ rfl
  have p52 := p5 2 _ rfl
  have p53 := p5 3 _ rfl
  have p54 := p5 4 _ rfl
  have p55 := p5 5 _ rfl
  have p56 := p5 6 _ rfl
  have q40 := q4 0
  have q41 := q4 1
  have q42 := q4 2
  have q43 := q4 3
  have q44 := q4 4
  have q45 := q4 5
  have q46 := q4 6
  have q52 := q5 2
  have q53 := q5 3
  have q54 := q5 4
  have q55 := q5 5
  have q56 := q5 6
  clear p4 q4 p5 q5 hh5
  have HH := Lib.hid hh4
  clear hh4
  go_wp2_with fail
  have n2 : ∀ j, w.heap.size + 1 ≠ (⟨w.heap.size + 1 + 1, j, none⟩ : Addr).block := fun j => by show w.heap.size + 1 ≠ w.heap.size + 1 + 1; omega
  have hmid := set_row_other (set_row_other (set_row_other (set_row_other (set_row_other HH.out (n2 2) (.int .i64 x.term.kind)) (n2 3) (.int .i64 x.term.num)) (n2 4) (.string x.term.name)) (n2 5) (.slice A1 x.term.kids.length x.term.kids.length)) (n2 6) (.int .i64 x.to)
  have hfin := set_row (set_row (set_row (set_row (set_row (set_row (set_row hmid 0 (.int .i64 x.op)) 1 (.int .i64 x.arg)) 2 (.int .i64 x.term.kind)) 3 (.int .i64 x.term.num)) 4 (.string x.term.name)) 5 (.slice A1 x.term.kids.length x.term.kids.length)) 6 (.int .i64 x.to)
  refine bodyPost_ret (results_cell_row rfl _ _ _ _ _ _ _ rfl hfin Tryz.underlying52 rfl (by kernel_rfl)) rfl ?_
  refine ⟨A1, rfl, hk1.sub (by simp) ?_, ?_⟩
  · intro p u hp
    have h1 : w.heap.size + 1 < W3.heap.size := by omega
    have h2 : w.heap.size + 1 + 1 < W3.heap.size := by omega
    refine high_mono (lo := W3.heap.size) (by omega) p u ?_
    iterate 7 refine high_set (Nat.le_refl _) h1 _ p u ?_
    iterate 5 refine high_set (Nat.le_refl _) h2 _ p u ?_
    exact hp
  · have h0 := below_trans' hBB hb1
    have h1 : w.heap.size ≤ w.heap.size + 1 := by omega
    have h2 : w.heap.size ≤ w.heap.size + 1 + 1 := by omega
    iterate 7 refine Below.setCell ?_ h1 _
    iterate 5 refine Below.setCell ?_ h2 _
    exact h0

section
variable (w : World) {ops : Array Oper} {rest : List Oper} {o : Oper} {a : Act} {Q : Exit → Act → World → Prop}
/-- make([]Ins, n). -/
theorem make_inss (hg : o.guard = none) (l c : Operand) (hop : o.op = Op.makeSlice 26 l c) (n : Nat) (hl : a.eval l = .int .i64 (n : Int)) (hc : a.eval c = .int .i64 (n : Int)) (hn : n ≤ 1048576)
    (hK : ∀ w' xs, w'.ownsRow w.heap.size 52 7 (.slice (some ⟨w.heap.size, 0, none⟩) n n) n xs → Below w.heap.size w w' →
      wpList Tryz.prog ops Q rest (a.put o.dst (.slice (some ⟨w.heap.size, 0, none⟩) n n)) w') : wpList Tryz.prog ops Q (o :: rest) a w := by
  obtain ⟨i0, hi, hz0, hz1, hz2⟩ := info_parts info_ins
  refine wpList_make_full w hg l c _ hop w.heap.size _ i0 _ 7 Tryz.underlying26 hi hz0 hz1 _ _ _ _ n hl hc rfl rfl (by rw [hz2]; omega) (by unfold maxLen; omega) (Nat.le_refl _) ?_
  intro w' h1 h2
  exact hK w' _ h1 ((Below.refl _ _).grown h2 (Nat.le_refl _) (by simp))
end

set_option maxHeartbeats 1000000 in
theorem toInsS_any {B : Nat} (A : Option Addr) (c : Nat) (ins : List Is) (w : World) (hk : InsAt w B A ins) (hn : ins.length ≤ 1048576) (hb : ∀ x ∈ ins, IsB 1048576 x) :
    Calls Tryz.prog 139 #[.slice A ins.length c] w fun e w' => ∃ A, e = .returned (.slice A ins.length ins.length) ∧ InsAt (High w' w.heap.size) w'.heap.size A ins ∧ Below w.heap.size w w' := by
  have HB := Lib.hid hb
  have hk0 := hk.full
  clear hb hk
  go_enter Tryz.func139, Tryz.ntmps139
  go_wp2_with (at_make; refine make_inss _ rfl _ _ rfl ins.length rfl rfl hn ?_; intro w1 xs0 hown hb)
  go_loopw [4] (fun i wr => ∃ (k : Nat) (ys : List Value) (cs ds : Nat → List Value), k ≤ ins.length ∧ i = .int .i64 k ∧ wr.ownsRow w.heap.size 52 7 (.slice (some ⟨w.heap.size, 0, none⟩) ins.length ins.length) ins.length ys ∧
    RowsAt ys 7 cs k ∧ (∀ i (h : i < ins.length), i < k → cs i = .int .i64 ins[i].op :: .int .i64 ins[i].arg :: (ds i ++ [.int .i64 ins[i].to]) ∧ TmAt (High wr (w.heap.size + 1)) wr.heap.size ins[i].term (ds i)) ∧ Below w.heap.size w wr ∧ w.heap.size + 1 ≤ wr.heap.size) (fun i _ => ins.length - (intOf i).toNat)
  case atStart => exact ⟨0, _, fun _ => [], fun _ => [], Nat.zero_le _, rfl, hown, RowsAt.zero _ _ _, fun i _ hi => by omega, hb, (hown.lt _ rfl).2⟩
  case round =>
    obtain ⟨k, ys, cs, ds, hk, rfl, ho, hag, htm, hbr, hsz⟩ := hrel
    clear hown hb
    have HT := Lib.hid htm
    have HA := Lib.hid hag
    clear htm hag
    by_cases hlt : k < ins.length
    · have hk' := hk0.below hbr
      obtain ⟨ad, A', c', rfl, hbl, k0, k1, k2, k3, k4, k5, k6, hk2⟩ := hk'.get hlt
      go_wp2_with fail
      refine (toIns_any ins[k] _ A' c' _ hk2 (HB.out _ (List.getElem_mem hlt)).term).mono ?_
      rintro e w2 ⟨A2, rfl, hk3, hb2⟩
      have ho2 := own_below ho hb2
      obtain ⟨u0, hu0⟩ := own_has ho2 (j := k * 7 + 0) (by omega)
      obtain ⟨u1, hu1⟩ := own_has ho2 (j := k * 7 + 1) (by omega)
      obtain ⟨u2, hu2⟩ := own_has ho2 (j := k * 7 + 2) (by omega)
      obtain ⟨u3, hu3⟩ := own_has ho2 (j := k * 7 + 3) (by omega)
      obtain ⟨u4, hu4⟩ := own_has ho2 (j := k * 7 + 4) (by omega)
      obtain ⟨u5, hu5⟩ := own_has ho2 (j := k * 7 + 5) (by omega)
      obtain ⟨u6, hu6⟩ := own_has ho2 (j := k * 7 + 6) (by omega)
      have hf0 := ho2.frozenAt (k * 7 + 0)
      have hf1 := ho2.frozenAt (k * 7 + 1)
      have hf2 := ho2.frozenAt (k * 7 + 2)
      have hf3 := ho2.frozenAt (k * 7 + 3)
      have hf4 := ho2.frozenAt (k * 7 + 4)
      have hf5 := ho2.frozenAt (k * 7 + 5)
      have hf6 := ho2.frozenAt (k * 7 + 6)
      rw [Nat.add_zero] at hu0 hf0
      go_wp2_with fail
      obtain ⟨s1, s2⟩ := setL_own [.int .i64 ins[k].op, .int .i64 ins[k].arg, .int .i64 ins[k].term.kind, .int .i64 ins[k].term.num, .string ins[k].term.name, .slice A2 ins[k].term.kids.length ins[k].term.kids.length, .int .i64 ins[k].to] w2 ys (k * 7) ho2
      have s3 := s2.size
      have s4 := hb2.size
      have hnew : TmAt (High w2 (w.heap.size + 1)) w2.heap.size ins[k].term [.int .i64 ins[k].term.kind, .int .i64 ins[k].term.num, .string ins[k].term.name, .slice A2 ins[k].term.kids.length ins[k].term.kids.length] := TmAt.make (hk3.sub (Nat.le_refl _) (high_mono hsz))
      go_roundw
      case rel =>
        refine ⟨k + 1, _, _, fun i => if i = k then [.int .i64 ins[k].term.kind, .int .i64 ins[k].term.num, .string ins[k].term.name, .slice A2 ins[k].term.kids.length ins[k].term.kids.length] else ds i, by omega, by go_num, s1, HA.out.put _ rfl ho2.1 hlt, ?_, (below_trans' hbr hb2).grown s2 (Nat.le_trans hbr.size s4) (fun k hk => by cases hk; exact Nat.le_refl _), Nat.le_trans (Nat.le_trans hsz s4) s3⟩
        intro i h hi
        by_cases e : i = k
        · subst e
          dsimp only
          rw [if_pos rfl, if_pos rfl]
          exact ⟨rfl, hnew.sub s3 (high_grown (Nat.le_refl _) s2 (by omega))⟩
        · dsimp only
          rw [if_neg e, if_neg e]
          exact ⟨(HT.out i h (by omega)).1, (HT.out i h (by omega)).2.sub (Nat.le_trans s4 s3) fun p u hp => high_grown (Nat.le_refl _) s2 (by omega) p u (high_below (Nat.le_refl _) hb2 p u hp)⟩
      case measure => simp [intOf]; omega
    · go_wp2
      go_ret
      obtain rfl : k = ins.length := by omega
      refine ⟨_, rfl, ⟨ds, fun i hi => ⟨?_, (HT.out i hi hi).2.sub (Nat.le_refl _) (high_mono (by omega))⟩⟩, hbr⟩
      have := HA.out.row (own_high ho) hi
      rwa [(HT.out i hi hi).1] at this
end Go.Proofs.YtkgoajnnkimkaaaGreat
/- Contract of toCode. -/
set_option linter.unusedSimpArgs false
set_option linter.unusedVariables false
namespace Go.Proofs.YtkgoajnnkimkaaaGreat
open Go.ChangeShapes Go.WideShapes Go.ChangeAt Go.RowKit

/-- Inside toCode: the argument's box, the answer's, the new code's. -/
structure InTo (w : World) (v : CV) (k : Cd) (r : Array Value) (W : World) : Prop where
  below : Below w.heap.size w W
  size : w.heap.size + 3 ≤ W.heap.size
  arg : W.heap[w.heap.size]? = some (.cells #[.slice v.gA k.globals.length v.gc, .slice v.lA k.locks.length v.lc, .slice v.pA k.procs.length v.pc, .slice v.eA k.entry.length v.ec, .slice v.iA k.ins.length v.ic] 55)
  res : W.heap[w.heap.size + 1]? = some (.cells #[.slice none 0 0, .slice none 0 0, .slice none 0 0, .slice none 0 0, .slice none 0 0] 28)
  out : W.heap[w.heap.size + 1 + 1]? = some (.cells r 28)
section
variable {w W W' : World} {v : CV} {k : Cd} {r : Array Value}
theorem InTo.to (h : InTo w v k r W) (hb : Below W.heap.size W W') : InTo w v k r W' := by
  have := h.size
  exact ⟨below_trans' h.below hb, Nat.le_trans h.size hb.size, (hb.block _ (by omega)).trans h.arg, (hb.block _ (by omega)).trans h.res, (hb.block _ (by omega)).trans h.out⟩
theorem InTo.set (h : InTo w v k r W) (j : Nat) (x : Value) : InTo w v k (r.setIfInBounds j x) (W.setCell ⟨w.heap.size + 1 + 1, j, none⟩ x) :=
  ⟨h.below.setCell (by show w.heap.size ≤ w.heap.size + 1 + 1; omega) _, by simpa using h.size, set_row_other h.arg (by show w.heap.size ≠ w.heap.size + 1 + 1; omega) _, set_row_other h.res (by show w.heap.size + 1 ≠ w.heap.size + 1 + 1; omega) _, set_row h.out _ _⟩
theorem inTo_start (w : World) (v : CV) (k : Cd) : InTo w v k #[.slice none 0 0, .slice none 0 0, .slice none 0 0, .slice none 0 0, .slice none 0 0] (((w.alloc (.cells #[.slice v.gA k.globals.length v.gc, .slice v.lA k.locks.length v.lc, .slice v.pA k.procs.length v.pc, .slice v.eA k.entry.length v.ec, .slice v.iA k.ins.length v.ic] 55)).alloc (.cells #[.slice none 0 0, .slice none 0 0, .slice none 0 0, .slice none 0 0, .slice none 0 0] 28)).alloc (.cells #[.slice none 0 0, .slice none 0 0, .slice none 0 0, .slice none 0 0, .slice none 0 0] 28)) := by
  have h1 := heap_alloc_new w (.cells #[.slice v.gA k.globals.length v.gc, .slice v.lA k.locks.length v.lc, .slice v.pA k.procs.length v.pc, .slice v.eA k.entry.length v.ec, .slice v.iA k.ins.length v.ic] 55)
  have b1 := below_alloc0 w (.cells #[.slice v.gA k.globals.length v.gc, .slice v.lA k.locks.length v.lc, .slice v.pA k.procs.length v.pc, .slice v.eA k.entry.length v.ec, .slice v.iA k.ins.length v.ic] 55)
  have s1 : (w.alloc (.cells #[.slice v.gA k.globals.length v.gc, .slice v.lA k.locks.length v.lc, .slice v.pA k.procs.length v.pc, .slice v.eA k.entry.length v.ec, .slice v.iA k.ins.length v.ic] 55)).heap.size = w.heap.size + 1 := by simp
  generalize w.alloc (.cells #[.slice v.gA k.globals.length v.gc, .slice v.lA k.locks.length v.lc, .slice v.pA k.procs.length v.pc, .slice v.eA k.entry.length v.ec, .slice v.iA k.ins.length v.ic] 55) = W1 at *
  have h2 := heap_alloc_new W1 (.cells #[.slice none 0 0, .slice none 0 0, .slice none 0 0, .slice none 0 0, .slice none 0 0] 28)
  have b2 := below_alloc0 W1 (.cells #[.slice none 0 0, .slice none 0 0, .slice none 0 0, .slice none 0 0, .slice none 0 0] 28)
  have s2 : (W1.alloc (.cells #[.slice none 0 0, .slice none 0 0, .slice none 0 0, .slice none 0 0, .slice none 0 0] 28)).heap.size = w.heap.size + 1 + 1 := by simp [s1]
  generalize W1.alloc (.cells #[.slice none 0 0, .slice none 0 0, .slice none 0 0, .slice none 0 0, .slice none 0 0] 28) = W2 at *
  have h3 := heap_alloc_new W2 (.cells #[.slice none 0 0, .slice none 0 0, .slice none 0 0, .slice none 0 0, .slice none 0 0] 28)
  have b3 := below_alloc0 W2 (.cells #[.slice none 0 0, .slice none 0 0, .slice none 0 0, .slice none 0 0, .slice none 0 0] 28)
  have s3 : (W2.alloc (.cells #[.slice none 0 0, .slice none 0 0, .slice none 0 0, .slice none 0 0, .slice none 0 0] 28)).heap.size = w.heap.size + 3 := by simp [s2]
  generalize W2.alloc (.cells #[.slice none 0 0, .slice none 0 0, .slice none 0 0, .slice none 0 0, .slice none 0 0] 28) = W3 at *
  rw [s1] at h2
  rw [s2] at h3
  exact ⟨below_trans' (below_trans' b1 b2) b3, by omega, (b3.block _ (by omega)).trans ((b2.block _ (by omega)).trans h1), (b3.block _ (by omega)).trans h2, h3⟩
end
theorem own_cap {w : World} {base : Nat} {t : TypeId} {size n c : Nat} {A : Option Addr} {xs : List Value} (h : w.ownsRow base t size (.slice A n c) n xs) : n ≤ c := by
  rcases h.2 with ⟨e, h0⟩ | ⟨g, cap, cur, e, _, _, hc, _⟩
  · omega
  · injection e with _ _ e3
    omega
theorem InTo.high {w W W' : World} {v : CV} {k : Cd} {r : Array Value} (h : InTo w v k r W) (hb : Below W.heap.size W W') (x : Value) (j : Nat) : ∀ p u, (High W (w.heap.size + 3)).cell? p = some u → (High (W'.setCell ⟨w.heap.size + 1 + 1, j, none⟩ x) (w.heap.size + 3)).cell? p = some u :=
  fun p u hp => high_set (Nat.le_refl _) (by show w.heap.size + 1 + 1 < w.heap.size + 3; omega) _ p u (high_below (Nat.le_refl _) hb p u hp)
theorem InTo.new {w W W' : World} {v : CV} {k : Cd} {r : Array Value} (h : InTo w v k r W) (x : Value) (j : Nat) : ∀ p u, (High W' W.heap.size).cell? p = some u → (High (W'.setCell ⟨w.heap.size + 1 + 1, j, none⟩ x) (w.heap.size + 3)).cell? p = some u :=
  fun p u hp => high_set (Nat.le_refl _) (by show w.heap.size + 1 + 1 < w.heap.size + 3; omega) _ p u (high_mono h.size p u hp)
theorem set_size (W : World) (a : Addr) (x : Value) : W.heap.size ≤ (W.setCell a x).heap.size := by simp
/-- What toCode answers. -/
def CodeNew (w : World) (k : Cd) (e : Ending) (w' : World) : Prop :=
  ∃ v : CV, e = .returned (.agg #[.slice v.gA k.globals.length v.gc, .slice v.lA k.locks.length v.lc, .slice v.pA k.procs.length v.pc, .slice v.eA k.entry.length v.ec, .slice v.iA k.ins.length v.ic]) ∧ CodeAt (High w' w.heap.size) w'.heap.size v k ∧ Below w.heap.size w w'

set_option maxHeartbeats 4000000 in
theorem toCode_any {B : Nat} (v : CV) (k : Cd) (w : World) (hk : CodeAt w B v k) (hb : CdB 1048576 k) : Calls Tryz.prog 66 #[.agg #[.slice v.gA k.globals.length v.gc, .slice v.lA k.locks.length v.lc, .slice v.pA k.procs.length v.pc, .slice v.eA k.entry.length v.ec, .slice v.iA k.ins.length v.ic]] w (CodeNew w k) := by
  have HG := Lib.hid (fun W (h : CodeAt W w.heap.size v k) => toStringS_any v.gA v.gc k.globals W h.g (by have := hb.globals; omega))
  have HLk := Lib.hid (fun W (h : CodeAt W w.heap.size v k) => toStringS_any v.lA v.lc k.locks W h.l (by have := hb.locks; omega))
  have HP := Lib.hid (fun W (h : CodeAt W w.heap.size v k) => toStringS_any v.pA v.pc k.procs W h.p (by have := hb.procs; omega))
  have HE := Lib.hid (fun W (h : CodeAt W w.heap.size v k) => toIntS_any v.eA v.ec k.entry W h.e (by have := hb.entry; omega))
  have HI := Lib.hid (fun W (h : CodeAt W w.heap.size v k) => toInsS_any v.iA v.ic k.ins W h.i hb.ins hb.insB)
  have hk0 := hk.full
  clear hb hk
  go_enter Tryz.func66, Tryz.ntmps66
  go_wp2_with fail
  have t0 := inTo_start w v k
  generalize ((w.alloc (.cells #[.slice v.gA k.globals.length v.gc, .slice v.lA k.locks.length v.lc, .slice v.pA k.procs.length v.pc, .slice v.eA k.entry.length v.ec, .slice v.iA k.ins.length v.ic] 55)).alloc (.cells #[.slice none 0 0, .slice none 0 0, .slice none 0 0, .slice none 0 0, .slice none 0 0] 28)).alloc (.cells #[.slice none 0 0, .slice none 0 0, .slice none 0 0, .slice none 0 0, .slice none 0 0] 28) = W at t0 ⊢
  refine (HG.out _ (hk0.below t0.below)).mono ?_
  rintro e w1 ⟨A1, c1, rfl, o1, b1⟩
  have u1 := t0.to b1
  obtain ⟨pa, qa⟩ := row_facts u1.arg
  obtain ⟨po, qo⟩ := row_facts u1.out
  have m1 := pa 1 _ rfl
  have n1 := po 0 _ rfl
  have q1 := qo 0
  clear pa qa po qo
  go_wp2_with fail
  have t1 : InTo w v k #[.slice A1 k.globals.length c1, .slice none 0 0, .slice none 0 0, .slice none 0 0, .slice none 0 0] (w1.setCell ⟨w.heap.size + 1 + 1, 0, none⟩ (.slice A1 k.globals.length c1)) := u1.set 0 _
  have r1 : Rd (High (w1.setCell ⟨w.heap.size + 1 + 1, 0, none⟩ (.slice A1 k.globals.length c1)) (w.heap.size + 3)) (w1.setCell ⟨w.heap.size + 1 + 1, 0, none⟩ (.slice A1 k.globals.length c1)).heap.size A1 (k.globals.map sv) := (own_high o1).sub (set_size _ _ _) (t0.new _ _)
  have g1 := own_cap o1
  generalize w1.setCell ⟨w.heap.size + 1 + 1, 0, none⟩ (.slice A1 k.globals.length c1) = V1 at t1 r1 ⊢
  clear o1 b1 u1 m1 n1 q1 t0
  refine (HLk.out _ (hk0.below t1.below)).mono ?_
  rintro e w2 ⟨A2, c2, rfl, o2, b2⟩
  have u2 := t1.to b2
  obtain ⟨pa, qa⟩ := row_facts u2.arg
  obtain ⟨po, qo⟩ := row_facts u2.out
  have m2 := pa 2 _ rfl
  have n2 := po 1 _ rfl
  have q2 := qo 1
  clear pa qa po qo
  go_wp2_with fail
  have t2 : InTo w v k #[.slice A1 k.globals.length c1, .slice A2 k.locks.length c2, .slice none 0 0, .slice none 0 0, .slice none 0 0] (w2.setCell ⟨w.heap.size + 1 + 1, 1, none⟩ (.slice A2 k.locks.length c2)) := u2.set 1 _
  have r1 : Rd (High (w2.setCell ⟨w.heap.size + 1 + 1, 1, none⟩ (.slice A2 k.locks.length c2)) (w.heap.size + 3)) (w2.setCell ⟨w.heap.size + 1 + 1, 1, none⟩ (.slice A2 k.locks.length c2)).heap.size A1 (k.globals.map sv) := r1.sub (Nat.le_trans b2.size (set_size _ _ _)) (t1.high b2 _ _)
  have r2 : Rd (High (w2.setCell ⟨w.heap.size + 1 + 1, 1, none⟩ (.slice A2 k.locks.length c2)) (w.heap.size + 3)) (w2.setCell ⟨w.heap.size + 1 + 1, 1, none⟩ (.slice A2 k.locks.length c2)).heap.size A2 (k.locks.map sv) := (own_high o2).sub (set_size _ _ _) (t1.new _ _)
  have g2 := own_cap o2
  generalize w2.setCell ⟨w.heap.size + 1 + 1, 1, none⟩ (.slice A2 k.locks.length c2) = V2 at t2 r1 r2 ⊢
  clear o2 b2 u2 m2 n2 q2 t1
  refine (HP.out _ (hk0.below t2.below)).mono ?_
  rintro e w3 ⟨A3, c3, rfl, o3, b3⟩
  have u3 := t2.to b3
  obtain ⟨pa, qa⟩ := row_facts u3.arg
  obtain ⟨po, qo⟩ := row_facts u3.out
  have m3 := pa 3 _ rfl
  have n3 := po 2 _ rfl
  have q3 := qo 2
  clear pa qa po qo
  go_wp2_with fail
  have t3 : InTo w v k #[.slice A1 k.globals.length c1, .slice A2 k.locks.length c2, .slice A3 k.procs.length c3, .slice none 0 0, .slice none 0 0] (w3.setCell ⟨w.heap.size + 1 + 1, 2, none⟩ (.slice A3 k.procs.length c3)) := u3.set 2 _
  have r1 : Rd (High (w3.setCell ⟨w.heap.size + 1 + 1, 2, none⟩ (.slice A3 k.procs.length c3)) (w.heap.size + 3)) (w3.setCell ⟨w.heap.size + 1 + 1, 2, none⟩ (.slice A3 k.procs.length c3)).heap.size A1 (k.globals.map sv) := r1.sub (Nat.le_trans b3.size (set_size _ _ _)) (t2.high b3 _ _)
  have r2 : Rd (High (w3.setCell ⟨w.heap.size + 1 + 1, 2, none⟩ (.slice A3 k.procs.length c3)) (w.heap.size + 3)) (w3.setCell ⟨w.heap.size + 1 + 1, 2, none⟩ (.slice A3 k.procs.length c3)).heap.size A2 (k.locks.map sv) := r2.sub (Nat.le_trans b3.size (set_size _ _ _)) (t2.high b3 _ _)
  have r3 : Rd (High (w3.setCell ⟨w.heap.size + 1 + 1, 2, none⟩ (.slice A3 k.procs.length c3)) (w.heap.size + 3)) (w3.setCell ⟨w.heap.size + 1 + 1, 2, none⟩ (.slice A3 k.procs.length c3)).heap.size A3 (k.procs.map sv) := (own_high o3).sub (set_size _ _ _) (t2.new _ _)
  have g3 := own_cap o3
  generalize w3.setCell ⟨w.heap.size + 1 + 1, 2, none⟩ (.slice A3 k.procs.length c3) = V3 at t3 r1 r2 r3 ⊢
  clear o3 b3 u3 m3 n3 q3 t2
  refine (HE.out _ (hk0.below t3.below)).mono ?_
  rintro e w4 ⟨A4, c4, rfl, o4, b4⟩
  have u4 := t3.to b4
  obtain ⟨pa, qa⟩ := row_facts u4.arg
  obtain ⟨po, qo⟩ := row_facts u4.out
  have m4 := pa 4 _ rfl
  have n4 := po 3 _ rfl
  have q4 := qo 3
  clear pa qa po qo
  go_wp2_with fail
  have t4 : InTo w v k #[.slice A1 k.globals.length c1, .slice A2 k.locks.length c2, .slice A3 k.procs.length c3, .slice A4 k.entry.length c4, .slice none 0 0] (w4.setCell ⟨w.heap.size + 1 + 1, 3, none⟩ (.slice A4 k.entry.length c4)) := u4.set 3 _
  have r1 : Rd (High (w4.setCell ⟨w.heap.size + 1 + 1, 3, none⟩ (.slice A4 k.entry.length c4)) (w.heap.size + 3)) (w4.setCell ⟨w.heap.size + 1 + 1, 3, none⟩ (.slice A4 k.entry.length c4)).heap.size A1 (k.globals.map sv) := r1.sub (Nat.le_trans b4.size (set_size _ _ _)) (t3.high b4 _ _)
  have r2 : Rd (High (w4.setCell ⟨w.heap.size + 1 + 1, 3, none⟩ (.slice A4 k.entry.length c4)) (w.heap.size + 3)) (w4.setCell ⟨w.heap.size + 1 + 1, 3, none⟩ (.slice A4 k.entry.length c4)).heap.size A2 (k.locks.map sv) := r2.sub (Nat.le_trans b4.size (set_size _ _ _)) (t3.high b4 _ _)
  have r3 : Rd (High (w4.setCell ⟨w.heap.size + 1 + 1, 3, none⟩ (.slice A4 k.entry.length c4)) (w.heap.size + 3)) (w4.setCell ⟨w.heap.size + 1 + 1, 3, none⟩ (.slice A4 k.entry.length c4)).heap.size A3 (k.procs.map sv) := r3.sub (Nat.le_trans b4.size (set_size _ _ _)) (t3.high b4 _ _)
  have r4 : Rd (High (w4.setCell ⟨w.heap.size + 1 + 1, 3, none⟩ (.slice A4 k.entry.length c4)) (w.heap.size + 3)) (w4.setCell ⟨w.heap.size + 1 + 1, 3, none⟩ (.slice A4 k.entry.length c4)).heap.size A4 (k.entry.map iv) := (own_high o4).sub (set_size _ _ _) (t3.new _ _)
  have g4 := own_cap o4
  generalize w4.setCell ⟨w.heap.size + 1 + 1, 3, none⟩ (.slice A4 k.entry.length c4) = V4 at t4 r1 r2 r3 r4 ⊢
  clear o4 b4 u4 m4 n4 q4 t3
  refine (HI.out _ (hk0.below t4.below)).mono ?_
  rintro e w5 ⟨A5, rfl, o5, b5⟩
  have u5 := t4.to b5
  obtain ⟨pa, qa⟩ := row_facts u5.arg
  obtain ⟨po, qo⟩ := row_facts u5.out
  obtain ⟨pr, qr⟩ := row_facts u5.res
  have x0 := po 0 _ rfl
  have y0 := pr 0 _ rfl
  have z0 := qr 0
  have x1 := po 1 _ rfl
  have y1 := pr 1 _ rfl
  have z1 := qr 1
  have x2 := po 2 _ rfl
  have y2 := pr 2 _ rfl
  have z2 := qr 2
  have x3 := po 3 _ rfl
  have y3 := pr 3 _ rfl
  have z3 := qr 3
  have x4 := po 4 _ rfl
  have y4 := pr 4 _ rfl
  have z4 := qr 4
  have q4 := qo 4
  clear pa qa po qo pr qr
  have HH := Lib.hid u5.res
  go_wp2_with fail
  have hfin := set_row (set_row (set_row (set_row (set_row (set_row_other HH.out (a := ⟨w.heap.size + 1 + 1, 4, none⟩) (by show w.heap.size + 1 ≠ w.heap.size + 1 + 1; omega) (.slice A5 k.ins.length k.ins.length)) 0 (.slice A1 k.globals.length c1)) 1 (.slice A2 k.locks.length c2)) 2 (.slice A3 k.procs.length c3)) 3 (.slice A4 k.entry.length c4)) 4 (.slice A5 k.ins.length k.ins.length)
  refine bodyPost_ret (results_cell_row rfl _ _ _ _ _ _ _ rfl hfin Tryz.underlying28 rfl (by kernel_rfl)) rfl ?_
  have h1 : w.heap.size + 1 < w.heap.size + 3 := by omega
  have h1' : w.heap.size ≤ w.heap.size + 1 := by omega
  have h2 : w.heap.size + 1 + 1 < w.heap.size + 3 := by omega
  have h2' : w.heap.size ≤ w.heap.size + 1 + 1 := by omega
  have hs : w5.heap.size ≤ ((((((w5.setCell ⟨w.heap.size + 1 + 1, 4, none⟩ (.slice A5 k.ins.length k.ins.length)).setCell ⟨w.heap.size + 1, 0, none⟩ (.slice A1 k.globals.length c1)).setCell ⟨w.heap.size + 1, 1, none⟩ (.slice A2 k.locks.length c2)).setCell ⟨w.heap.size + 1, 2, none⟩ (.slice A3 k.procs.length c3)).setCell ⟨w.heap.size + 1, 3, none⟩ (.slice A4 k.entry.length c4)).setCell ⟨w.heap.size + 1, 4, none⟩ (.slice A5 k.ins.length k.ins.length)).heap.size := by simp
  have hx : ∀ p u, (High w5 (w.heap.size + 3)).cell? p = some u → (High ((((((w5.setCell ⟨w.heap.size + 1 + 1, 4, none⟩ (.slice A5 k.ins.length k.ins.length)).setCell ⟨w.heap.size + 1, 0, none⟩ (.slice A1 k.globals.length c1)).setCell ⟨w.heap.size + 1, 1, none⟩ (.slice A2 k.locks.length c2)).setCell ⟨w.heap.size + 1, 2, none⟩ (.slice A3 k.procs.length c3)).setCell ⟨w.heap.size + 1, 3, none⟩ (.slice A4 k.entry.length c4)).setCell ⟨w.heap.size + 1, 4, none⟩ (.slice A5 k.ins.length k.ins.length)) w.heap.size).cell? p = some u := by
    intro p u hp
    refine high_mono (lo := w.heap.size + 3) (by omega) p u ?_
    iterate 5 refine high_set (Nat.le_refl _) h1 _ p u ?_
    refine high_set (Nat.le_refl _) h2 _ p u ?_
    exact hp
  have hy := fun p u hp => hx p u (high_below (Nat.le_refl _) b5 p u hp)
  have hz : ∀ p u, (High w5 V4.heap.size).cell? p = some u → (High ((((((w5.setCell ⟨w.heap.size + 1 + 1, 4, none⟩ (.slice A5 k.ins.length k.ins.length)).setCell ⟨w.heap.size + 1, 0, none⟩ (.slice A1 k.globals.length c1)).setCell ⟨w.heap.size + 1, 1, none⟩ (.slice A2 k.locks.length c2)).setCell ⟨w.heap.size + 1, 2, none⟩ (.slice A3 k.procs.length c3)).setCell ⟨w.heap.size + 1, 3, none⟩ (.slice A4 k.entry.length c4)).setCell ⟨w.heap.size + 1, 4, none⟩ (.slice A5 k.ins.length k.ins.length)) w.heap.size).cell? p = some u := fun p u hp => hx p u (high_mono t4.size p u hp)
  refine ⟨⟨A1, A2, A3, A4, A5, c1, c2, c3, c4, k.ins.length⟩, rfl, ⟨g1, g2, g3, g4, Nat.le_refl _, ?_, ?_, ?_, ?_, ?_⟩, ?_⟩
  · exact r1.sub (Nat.le_trans b5.size hs) hy
  · exact r2.sub (Nat.le_trans b5.size hs) hy
  · exact r3.sub (Nat.le_trans b5.size hs) hy
  · exact r4.sub (Nat.le_trans b5.size hs) hy
  · exact o5.sub hs hz
  · iterate 5 refine Below.setCell ?_ h1' _
    refine Below.setCell ?_ h2' _
    exact u5.below
end Go.Proofs.YtkgoajnnkimkaaaGreat
