/- Contracts of toTerm, toTermS, toIns, toInsS, toCode. -/
import Derived.Test.YtjnlmiekldflhaaLStr
import Derived.Test.YtjnlmiekldflhaaHigh
import Derived.Laws.Rows
set_option linter.unusedSimpArgs false
set_option linter.unusedVariables false
namespace Go.Proofs.Ytjnlmiekldflhaa
open Go.ChangeShapes Go.WideShapes Go.ChangeAt Go.RowKit

theorem info_term : (Try.prog.info? 55).map (fun i => (i.zero, i.size, i.bytes)) = some (some (.agg #[.int .i64 0, .int .i64 0, .string ⟨#[]⟩, .slice none 0 0]), 4, 56) := by kernel_rfl

/-- What toTermS answers. -/
def KidsNew (w : World) (ks : List Tm) (e : Ending) (w' : World) : Prop :=
  ∃ A, e = .returned (.slice A ks.length ks.length) ∧ KidsAt (High w' w.heap.size) w'.heap.size A ks ∧ Below w.heap.size w w'
/-- What toTerm answers. -/
def TmNew (w : World) (t : Tm) (e : Ending) (w' : World) : Prop :=
  ∃ A, e = .returned (.agg #[.int .i64 t.kind, .int .i64 t.num, .string t.name, .slice A t.kids.length t.kids.length]) ∧ KidsAt (High w' w.heap.size) w'.heap.size A t.kids ∧ Below w.heap.size w w'
def ToTerm (t : Tm) : Prop := ∀ (B : Nat) (A : Option Addr) (c : Nat) (w : World), KidsAt w B A t.kids → TmB 1048576 t →
  Calls Try.prog 118 #[.agg #[.int .i64 t.kind, .int .i64 t.num, .string t.name, .slice A t.kids.length c]] w (TmNew w t)

theorem row_facts {w : World} {g : Nat} {cs : Array Value} {t : TypeId} (h : w.heap[g]? = some (.cells cs t)) : (∀ j v, cs[j]? = some v → w.cell? ⟨g, j, none⟩ = some v) ∧ ∀ j, w.frozen? ⟨g, j, none⟩ = false :=
  ⟨fun j v hv => by rw [cell_of_row _ _ _ _ _ _ h]; exact hv, fun j => frozen_of_row w g j cs t h⟩

theorem set_row {w : World} {g : Nat} {cs : Array Value} {t : TypeId} {fr : Nat × Nat} (h : w.heap[g]? = some (.cells cs t fr)) (j : Nat) (v : Value) : (w.setCell ⟨g, j, none⟩ v).heap[g]? = some (.cells (cs.setIfInBounds j v) t fr) := by
  unfold World.setCell
  simp [Array.getElem?_modify, h]
theorem set_row_other {w : World} {g : Nat} {o : Obj} (h : w.heap[g]? = some o) {a : Addr} (hne : g ≠ a.block) (v : Value) : (w.setCell a v).heap[g]? = some o := (Below.heap_setCell w a v g hne).trans h

theorem toTerm_of (t : Tm) (B : Nat) (A : Option Addr) (c : Nat) (w : World) (hk : KidsAt w B A t.kids) (ih : ∀ W, KidsAt W W.heap.size A t.kids → Calls Try.prog 137 #[.slice A t.kids.length c] W (KidsNew W t.kids)) :
    Calls Try.prog 118 #[.agg #[.int .i64 t.kind, .int .i64 t.num, .string t.name, .slice A t.kids.length c]] w (TmNew w t) := by
  have HI := Lib.hid ih
  clear ih
  go_enter Try.func118, Try.ntmps118
  go_wp2_with fail
  have hB : Below w.heap.size w ((w.alloc (.cells #[.int .i64 t.kind, .int .i64 t.num, .string t.name, .slice A t.kids.length c] 93)).alloc (.cells #[.int .i64 0, .int .i64 0, .string ⟨#[]⟩, .slice none 0 0] 55)) := below_trans' (below_alloc0 _ _) (below_alloc0 _ _)
  have hs : ((w.alloc (.cells #[.int .i64 t.kind, .int .i64 t.num, .string t.name, .slice A t.kids.length c] 93)).alloc (.cells #[.int .i64 0, .int .i64 0, .string ⟨#[]⟩, .slice none 0 0] 55)).heap.size = w.heap.size + 1 + 1 := by simp
  have hh : ((w.alloc (.cells #[.int .i64 t.kind, .int .i64 t.num, .string t.name, .slice A t.kids.length c] 93)).alloc (.cells #[.int .i64 0, .int .i64 0, .string ⟨#[]⟩, .slice none 0 0] 55)).heap[w.heap.size + 1]? = some (.cells #[.int .i64 0, .int .i64 0, .string ⟨#[]⟩, .slice none 0 0] 55) := by
    have := heap_alloc_new (w.alloc (.cells #[.int .i64 t.kind, .int .i64 t.num, .string t.name, .slice A t.kids.length c] 93)) (.cells #[.int .i64 0, .int .i64 0, .string ⟨#[]⟩, .slice none 0 0] 55)
    simpa using this
  generalize (w.alloc (.cells #[.int .i64 t.kind, .int .i64 t.num, .string t.name, .slice A t.kids.length c] 93)).alloc (.cells #[.int .i64 0, .int .i64 0, .string ⟨#[]⟩, .slice none 0 0] 55) = W at hB hs hh ⊢
  have hb3 := below_alloc0 W (.cells #[.int .i64 t.kind, .int .i64 t.num, .string t.name, .slice none 0 0] 55)
  have hs3 : (W.alloc (.cells #[.int .i64 t.kind, .int .i64 t.num, .string t.name, .slice none 0 0] 55)).heap.size = w.heap.size + 1 + 1 + 1 := by simp [hs]
  have hh3 := heap_alloc_new W (.cells #[.int .i64 t.kind, .int .i64 t.num, .string t.name, .slice none 0 0] 55)
  have hh2 := (hb3.block (w.heap.size + 1) (by omega)).trans hh
  rw [hs] at hh3
  have hBB := below_trans' hB hb3
  generalize W.alloc (.cells #[.int .i64 t.kind, .int .i64 t.num, .string t.name, .slice none 0 0] 55) = W3 at hb3 hs3 hh3 hh2 hBB ⊢
  clear hB hs hh hb3
  refine (HI.out _ (hk.full.below hBB).full).mono ?_
  rintro e w' ⟨A1, rfl, hk1, hb1⟩
  have hh4 := (hb1.block (w.heap.size + 1) (by omega)).trans hh2
  have hh5 := (hb1.block (w.heap.size + 1 + 1) (by omega)).trans hh3
  have hsz := hb1.size
  clear hh2 hh3 HI hk
  obtain ⟨p4, q4⟩ := row_facts hh4
  obtain ⟨p5, q5⟩ := row_facts hh5
  have p40 := p4 0 _ rfl
  have p41 := p4 1 _ rfl
  have p42 := p4 2 _ rfl
  have p43 := p4 3 _ rfl
  have p50 := p5 0 _ rfl
  have p51 := p5 1 _ rfl
  have p52 := p5 2 _ rfl
  have p53 := p5 3 _ rfl
  have q40 := q4 0
  have q41 := q4 1
  have q42 := q4 2
  have q43 := q4 3
  have q53 := q5 3
  clear p4 q4 p5 q5 hh5
  have HH := Lib.hid hh4
  clear hh4
  go_wp2_with fail
  have hfin := set_row (set_row (set_row (set_row (set_row_other HH.out (a := ⟨w.heap.size + 1 + 1, 3, none⟩) (by show w.heap.size + 1 ≠ w.heap.size + 1 + 1; omega) (.slice A1 t.kids.length t.kids.length)) 0 (.int .i64 t.kind)) 1 (.int .i64 t.num)) 2 (.string t.name)) 3 (.slice A1 t.kids.length t.kids.length)
  refine bodyPost_ret (results_cell_row rfl _ _ _ _ _ _ _ rfl hfin Try.underlying55 rfl (by kernel_rfl)) rfl ?_
  refine ⟨A1, rfl, hk1.sub (by simp) ?_, ?_⟩
  · intro p u hp
    have h1 : w.heap.size + 1 < W3.heap.size := by omega
    have h2 : w.heap.size + 1 + 1 < W3.heap.size := by omega
    exact high_mono (lo := W3.heap.size) (by omega) p u (high_set (Nat.le_refl _) h1 _ p u (high_set (Nat.le_refl _) h1 _ p u (high_set (Nat.le_refl _) h1 _ p u (high_set (Nat.le_refl _) h1 _ p u (high_set (Nat.le_refl _) h2 _ p u hp)))))
  · have h0 := below_trans' hBB hb1
    exact ((((h0.setCell (by show w.heap.size ≤ w.heap.size + 1 + 1; omega) _).setCell (by show w.heap.size ≤ w.heap.size + 1; omega) _).setCell (by show w.heap.size ≤ w.heap.size + 1; omega) _).setCell (by show w.heap.size ≤ w.heap.size + 1; omega) _).setCell (by show w.heap.size ≤ w.heap.size + 1; omega) _

section
variable (w : World) {ops : Array Oper} {rest : List Oper} {o : Oper} {a : Act} {Q : Exit → Act → World → Prop}
/-- make([]Term, n). -/
theorem make_terms (hg : o.guard = none) (l c : Operand) (hop : o.op = Op.makeSlice 53 l c) (n : Nat) (hl : a.eval l = .int .i64 (n : Int)) (hc : a.eval c = .int .i64 (n : Int)) (hn : n ≤ 1048576)
    (hK : ∀ w' xs, w'.ownsRow w.heap.size 55 4 (.slice (some ⟨w.heap.size, 0, none⟩) n n) n xs → Below w.heap.size w w' →
      wpList Try.prog ops Q rest (a.put o.dst (.slice (some ⟨w.heap.size, 0, none⟩) n n)) w') : wpList Try.prog ops Q (o :: rest) a w := by
  obtain ⟨i0, hi, hz0, hz1, hz2⟩ := info_parts info_term
  refine wpList_make_full w hg l c _ hop w.heap.size _ i0 _ 4 Try.underlying53 hi hz0 hz1 _ _ _ _ n hl hc rfl rfl (by rw [hz2]; omega) (by unfold maxLen; omega) (Nat.le_refl _) ?_
  intro w' h1 h2
  exact hK w' _ h1 ((Below.refl _ _).grown h2 (Nat.le_refl _) (by simp))
end

theorem toTermS_of {B : Nat} (A : Option Addr) (c : Nat) (ks : List Tm) (w : World) (hk : KidsAt w B A ks) (hn : ks.length ≤ 1048576) (hb : ∀ i (h : i < ks.length), TmB 1048576 ks[i]) (ih : ∀ i (h : i < ks.length), ToTerm ks[i]) :
    Calls Try.prog 137 #[.slice A ks.length c] w (KidsNew w ks) := by
  have HI := Lib.hid ih
  have HB := Lib.hid hb
  have hk0 := hk.full
  clear ih hb hk
  go_enter Try.func137, Try.ntmps137
  go_wp2_with (at_make; refine make_terms _ rfl _ _ rfl ks.length rfl rfl hn ?_; intro w1 xs0 hown hb)
  go_loopw [4] (fun i wr => ∃ (k : Nat) (ys : List Value) (cs : Nat → List Value), k ≤ ks.length ∧ i = .int .i64 k ∧ wr.ownsRow w.heap.size 55 4 (.slice (some ⟨w.heap.size, 0, none⟩) ks.length ks.length) ks.length ys ∧
    RowsAt ys 4 cs k ∧ (∀ i (h : i < ks.length), i < k → TmAt (High wr (w.heap.size + 1)) wr.heap.size ks[i] (cs i)) ∧ Below w.heap.size w wr ∧ w.heap.size + 1 ≤ wr.heap.size) (fun i _ => ks.length - (intOf i).toNat)
  case atStart => exact ⟨0, _, fun _ => [], Nat.zero_le _, rfl, hown, RowsAt.zero _ _ _, fun i _ hi => by omega, hb, (hown.lt _ rfl).2⟩
  case round =>
    obtain ⟨k, ys, cs, hk, rfl, ho, hag, htm, hbr, hsz⟩ := hrel
    clear hown hb
    have HT := Lib.hid htm
    have HA := Lib.hid hag
    clear htm hag
    by_cases hlt : k < ks.length
    · have hk' := hk0.below hbr
      obtain ⟨ad, A', c', rfl, hbl, k0, k1, k2, k3, hk2⟩ := hk'.get hlt
      go_wp2_with fail
      refine (HI.out k hlt _ A' c' _ hk2 (HB.out k hlt)).mono ?_
      rintro e w2 ⟨A2, rfl, hk3, hb2⟩
      have ho2 := own_below ho hb2
      obtain ⟨u0, hu0⟩ := own_has ho2 (j := k * 4 + 0) (by omega)
      obtain ⟨u1, hu1⟩ := own_has ho2 (j := k * 4 + 1) (by omega)
      obtain ⟨u2, hu2⟩ := own_has ho2 (j := k * 4 + 2) (by omega)
      obtain ⟨u3, hu3⟩ := own_has ho2 (j := k * 4 + 3) (by omega)
      have hf0 := ho2.frozenAt (k * 4 + 0)
      have hf1 := ho2.frozenAt (k * 4 + 1)
      have hf2 := ho2.frozenAt (k * 4 + 2)
      have hf3 := ho2.frozenAt (k * 4 + 3)
      rw [Nat.add_zero] at hu0 hf0
      go_wp2_with fail
      obtain ⟨s1, s2⟩ := setL_own [.int .i64 ks[k].kind, .int .i64 ks[k].num, .string ks[k].name, .slice A2 ks[k].kids.length ks[k].kids.length] w2 ys (k * 4) ho2
      have s3 := s2.size
      have s4 := hb2.size
      have hnew : TmAt (High w2 (w.heap.size + 1)) w2.heap.size ks[k] [.int .i64 ks[k].kind, .int .i64 ks[k].num, .string ks[k].name, .slice A2 ks[k].kids.length ks[k].kids.length] := TmAt.make (hk3.sub (Nat.le_refl _) (high_mono hsz))
      go_roundw
      case rel =>
        refine ⟨k + 1, _, _, by omega, by go_num, s1, HA.out.put _ rfl ho2.1 hlt, ?_, (below_trans' hbr hb2).grown s2 (Nat.le_trans hbr.size s4) (fun k hk => by cases hk; exact Nat.le_refl _), Nat.le_trans (Nat.le_trans hsz s4) s3⟩
        intro i h hi
        by_cases e : i = k
        · subst e
          rw [if_pos rfl]
          exact hnew.sub s3 (high_grown (Nat.le_refl _) s2 (by omega))
        · rw [if_neg e]
          exact (HT.out i h (by omega)).sub (Nat.le_trans s4 s3) fun p u hp => high_grown (Nat.le_refl _) s2 (by omega) p u (high_below (Nat.le_refl _) hb2 p u hp)
      case measure => simp [intOf]; omega
    · go_wp2
      go_ret
      obtain rfl : k = ks.length := by omega
      exact ⟨_, rfl, ⟨cs, fun i hi => HA.out.row (own_high ho) hi, fun i hi => (HT.out i hi hi).sub (Nat.le_refl _) (high_mono (by omega))⟩, hbr⟩
theorem toTerm_any (t : Tm) : ToTerm t := by
  have : ∀ (n : Nat) (t : Tm), SizeOf.sizeOf t ≤ n → ToTerm t := by
    intro n
    induction n with
    | zero => intro t h; cases t; simp at h
    | succ n ih =>
      intro t h B A c w hk hb
      exact toTerm_of t B A c w hk fun W hW => toTermS_of A c t.kids W hW hb.fits.2.2.2 (fun i hi => hb.kid i hi) fun i hi => ih _ (by have := sizeOf_kid i hi; omega)
  exact this _ t (Nat.le_refl _)

theorem info_ins : (Try.prog.info? 57).map (fun i => (i.zero, i.size, i.bytes)) = some (some (.agg #[.int .i64 0, .int .i64 0, .int .i64 0, .int .i64 0, .string ⟨#[]⟩, .slice none 0 0, .int .i64 0]), 7, 80) := by kernel_rfl
/-- What toIns answers. -/
def InsNew (w : World) (x : Is) (e : Ending) (w' : World) : Prop :=
  ∃ A, e = .returned (.agg #[.int .i64 x.op, .int .i64 x.arg, .int .i64 x.term.kind, .int .i64 x.term.num, .string x.term.name, .slice A x.term.kids.length x.term.kids.length, .int .i64 x.to]) ∧ KidsAt (High w' w.heap.size) w'.heap.size A x.term.kids ∧ Below w.heap.size w w'

set_option maxHeartbeats 1000000 in
theorem toIns_any (x : Is) (B : Nat) (A : Option Addr) (c : Nat) (w : World) (hk : KidsAt w B A x.term.kids) (hb : TmB 1048576 x.term) :
    Calls Try.prog 101 #[.agg #[.int .i64 x.op, .int .i64 x.arg, .int .i64 x.term.kind, .int .i64 x.term.num, .string x.term.name, .slice A x.term.kids.length c, .int .i64 x.to]] w (InsNew w x) := by
  have HI := Lib.hid (fun W (h : KidsAt W W.heap.size A x.term.kids) => toTerm_any x.term _ A c W h hb)
  clear hb
  go_enter Try.func101, Try.ntmps101
  go_wp2_with fail
  have hB : Below w.heap.size w ((w.alloc (.cells #[.int .i64 x.op, .int .i64 x.arg, .int .i64 x.term.kind, .int .i64 x.term.num, .string x.term.name, .slice A x.term.kids.length c, .int .i64 x.to] 95)).alloc (.cells #[.int .i64 0, .int .i64 0, .int .i64 0, .int .i64 0, .string ⟨#[]⟩, .slice none 0 0, .int .i64 0] 57)) := below_trans' (below_alloc0 _ _) (below_alloc0 _ _)
  have hs : ((w.alloc (.cells #[.int .i64 x.op, .int .i64 x.arg, .int .i64 x.term.kind, .int .i64 x.term.num, .string x.term.name, .slice A x.term.kids.length c, .int .i64 x.to] 95)).alloc (.cells #[.int .i64 0, .int .i64 0, .int .i64 0, .int .i64 0, .string ⟨#[]⟩, .slice none 0 0, .int .i64 0] 57)).heap.size = w.heap.size + 1 + 1 := by simp
  have hh : ((w.alloc (.cells #[.int .i64 x.op, .int .i64 x.arg, .int .i64 x.term.kind, .int .i64 x.term.num, .string x.term.name, .slice A x.term.kids.length c, .int .i64 x.to] 95)).alloc (.cells #[.int .i64 0, .int .i64 0, .int .i64 0, .int .i64 0, .string ⟨#[]⟩, .slice none 0 0, .int .i64 0] 57)).heap[w.heap.size + 1]? = some (.cells #[.int .i64 0, .int .i64 0, .int .i64 0, .int .i64 0, .string ⟨#[]⟩, .slice none 0 0, .int .i64 0] 57) := by
    have := heap_alloc_new (w.alloc (.cells #[.int .i64 x.op, .int .i64 x.arg, .int .i64 x.term.kind, .int .i64 x.term.num, .string x.term.name, .slice A x.term.kids.length c, .int .i64 x.to] 95)) (.cells #[.int .i64 0, .int .i64 0, .int .i64 0, .int .i64 0, .string ⟨#[]⟩, .slice none 0 0, .int .i64 0] 57)
    simpa using this
  have hbox : ((w.alloc (.cells #[.int .i64 x.op, .int .i64 x.arg, .int .i64 x.term.kind, .int .i64 x.term.num, .string x.term.name, .slice A x.term.kids.length c, .int .i64 x.to] 95)).alloc (.cells #[.int .i64 0, .int .i64 0, .int .i64 0, .int .i64 0, .string ⟨#[]⟩, .slice none 0 0, .int .i64 0] 57)).cell? ⟨w.heap.size, 6, none⟩ = some (.int .i64 x.to) :=
    cell_below (below_alloc0 _ _) (box_cell _ _ _ 6 rfl)
  generalize (w.alloc (.cells #[.int .i64 x.op, .int .i64 x.arg, .int .i64 x.term.kind, .int .i64 x.term.num, .string x.term.name, .slice A x.term.kids.length c, .int .i64 x.to] 95)).alloc (.cells #[.int .i64 0, .int .i64 0, .int .i64 0, .int .i64 0, .string ⟨#[]⟩, .slice none 0 0, .int .i64 0] 57) = W at hB hs hh hbox ⊢
  have hb3 := below_alloc0 W (.cells #[.int .i64 x.op, .int .i64 x.arg, .int .i64 0, .int .i64 0, .string ⟨#[]⟩, .slice none 0 0, .int .i64 0] 57)
  have hs3 : (W.alloc (.cells #[.int .i64 x.op, .int .i64 x.arg, .int .i64 0, .int .i64 0, .string ⟨#[]⟩, .slice none 0 0, .int .i64 0] 57)).heap.size = w.heap.size + 1 + 1 + 1 := by simp [hs]
  have hh3 := heap_alloc_new W (.cells #[.int .i64 x.op, .int .i64 x.arg, .int .i64 0, .int .i64 0, .string ⟨#[]⟩, .slice none 0 0, .int .i64 0] 57)
  have hh2 := (hb3.block (w.heap.size + 1) (by omega)).trans hh
  have hbox3 := cell_below hb3 hbox
  rw [hs] at hh3
  have hBB := below_trans' hB hb3
  generalize W.alloc (.cells #[.int .i64 x.op, .int .i64 x.arg, .int .i64 0, .int .i64 0, .string ⟨#[]⟩, .slice none 0 0, .int .i64 0] 57) = W3 at hb3 hs3 hh3 hh2 hBB hbox3 ⊢
  clear hB hs hh hb3 hbox
  refine (HI.out _ (hk.full.below hBB).full).mono ?_
  rintro e w' ⟨A1, rfl, hk1, hb1⟩
  have hh4 := (hb1.block (w.heap.size + 1) (by omega)).trans hh2
  have hh5 := (hb1.block (w.heap.size + 1 + 1) (by omega)).trans hh3
  have hbox4 := cell_below hb1 hbox3
  have hsz := hb1.size
  clear hh2 hh3 HI hk hbox3
  obtain ⟨p4, q4⟩ := row_facts hh4
  obtain ⟨p5, q5⟩ := row_facts hh5
  have p40 := p4 0 _ rfl
  have p41 := p4 1 _ rfl
  have p42 := p4 2 _ rfl
  have p43 := p4 3 _ rfl
  have p44 := p4 4 _ rfl
  have p45 := p4 5 _ rfl
  have p46 := p4 6 _ rfl
  have p50 := p5 0 _ rfl
  have p51 := p5 1 _ rfl
  have p52 := p5 2 _ rfl
  have p53 := p5 3 _ rfl
  have p54 := p5 4 _ rfl
  have p55 := p5 5 _ rfl
  have p56 := p5 6 _ rfl
  have q40 := q4 0
  have q41 := q4 1
  have q42 := q4 2
  have q43 := q4 3
  have q44 := q4 4
  have q45 := q4 5
  have q46 := q4 6
  have q52 := q5 2
  have q53 := q5 3
  have q54 := q5 4
  have q55 := q5 5
  have q56 := q5 6
  clear p4 q4 p5 q5 hh5
  have HH := Lib.hid hh4
  clear hh4
  go_wp2_with fail
  have n2 : ∀ j, w.heap.size + 1 ≠ (⟨w.heap.size + 1 + 1, j, none⟩ : Addr).block := fun j => by show w.heap.size + 1 ≠ w.heap.size + 1 + 1; omega
  have hmid := set_row_other (set_row_other (set_row_other (set_row_other (set_row_other HH.out (n2 2) (.int .i64 x.term.kind)) (n2 3) (.int .i64 x.term.num)) (n2 4) (.string x.term.name)) (n2 5) (.slice A1 x.term.kids.length x.term.kids.length)) (n2 6) (.int .i64 x.to)
  have hfin := set_row (set_row (set_row (set_row (set_row (set_row (set_row hmid 0 (.int .i64 x.op)) 1 (.int .i64 x.arg)) 2 (.int .i64 x.term.kind)) 3 (.int .i64 x.term.num)) 4 (.string x.term.name)) 5 (.slice A1 x.term.kids.length x.term.kids.length)) 6 (.int .i64 x.to)
  refine bodyPost_ret (results_cell_row rfl _ _ _ _ _ _ _ rfl hfin Try.underlying57 rfl (by kernel_rfl)) rfl ?_
  refine ⟨A1, rfl, hk1.sub (by simp) ?_, ?_⟩
  · intro p u hp
    have h1 : w.heap.size + 1 < W3.heap.size := by omega
    have h2 : w.heap.size + 1 + 1 < W3.heap.size := by omega
    refine high_mono (lo := W3.heap.size) (by omega) p u ?_
    iterate 7 refine high_set (Nat.le_refl _) h1 _ p u ?_
    iterate 5 refine high_set (Nat.le_refl _) h2 _ p u ?_
    exact hp
  · have h0 := below_trans' hBB hb1
    have h1 : w.heap.size ≤ w.heap.size + 1 := by omega
    have h2 : w.heap.size ≤ w.heap.size + 1 + 1 := by omega
    iterate 7 refine Below.setCell ?_ h1 _
    iterate 5 refine Below.setCell ?_ h2 _
    exact h0

section
variable (w : World) {ops : Array Oper} {rest : List Oper} {o : Oper} {a : Act} {Q : Exit → Act → World → Prop}
/-- make([]Ins, n). -/
theorem make_inss (hg : o.guard = none) (l c : Operand) (hop : o.op = Op.makeSlice 31 l c) (n : Nat) (hl : a.eval l = .int .i64 (n : Int)) (hc : a.eval c = .int .i64 (n : Int)) (hn : n ≤ 1048576)
    (hK : ∀ w' xs, w'.ownsRow w.heap.size 57 7 (.slice (some ⟨w.heap.size, 0, none⟩) n n) n xs → Below w.heap.size w w' →
      wpList Try.prog ops Q rest (a.put o.dst (.slice (some ⟨w.heap.size, 0, none⟩) n n)) w') : wpList Try.prog ops Q (o :: rest) a w := by
  obtain ⟨i0, hi, hz0, hz1, hz2⟩ := info_parts info_ins
  refine wpList_make_full w hg l c _ hop w.heap.size _ i0 _ 7 Try.underlying31 hi hz0 hz1 _ _ _ _ n hl hc rfl rfl (by rw [hz2]; omega) (by unfold maxLen; omega) (Nat.le_refl _) ?_
  intro w' h1 h2
  exact hK w' _ h1 ((Below.refl _ _).grown h2 (Nat.le_refl _) (by simp))
end

set_option maxHeartbeats 1000000 in
theorem toInsS_any {B : Nat} (A : Option Addr) (c : Nat) (ins : List Is) (w : World) (hk : InsAt w B A ins) (hn : ins.length ≤ 1048576) (hb : ∀ x ∈ ins, IsB 1048576 x) :
    Calls Try.prog 61 #[.slice A ins.length c] w fun e w' => ∃ A, e = .returned (.slice A ins.length ins.length) ∧ InsAt (High w' w.heap.size) w'.heap.size A ins ∧ Below w.heap.size w w' := by
  have HB := Lib.hid hb
  have hk0 := hk.full
  clear hb hk
  go_enter Try.func61, Try.ntmps61
  go_wp2_with (at_make; refine make_inss _ rfl _ _ rfl ins.length rfl rfl hn ?_; intro w1 xs0 hown hb)
  go_loopw [4] (fun i wr => ∃ (k : Nat) (ys : List Value) (cs ds : Nat → List Value), k ≤ ins.length ∧ i = .int .i64 k ∧ wr.ownsRow w.heap.size 57 7 (.slice (some ⟨w.heap.size, 0, none⟩) ins.length ins.length) ins.length ys ∧
    RowsAt ys 7 cs k ∧ (∀ i (h : i < ins.length), i < k → cs i = .int .i64 ins[i].op :: .int .i64 ins[i].arg :: (ds i ++ [.int .i64 ins[i].to]) ∧ TmAt (High wr (w.heap.size + 1)) wr.heap.size ins[i].term (ds i)) ∧ Below w.heap.size w wr ∧ w.heap.size + 1 ≤ wr.heap.size) (fun i _ => ins.length - (intOf i).toNat)
  case atStart => exact ⟨0, _, fun _ => [], fun _ => [], Nat.zero_le _, rfl, hown, RowsAt.zero _ _ _, fun i _ hi => by omega, hb, (hown.lt _ rfl).2⟩
  case round =>
    obtain ⟨k, ys, cs, ds, hk, rfl, ho, hag, htm, hbr, hsz⟩ := hrel
    clear hown hb
    have HT := Lib.hid htm
    have HA := Lib.hid hag
    clear htm hag
    by_cases hlt : k < ins.length
    · have hk' := hk0.below hbr
      obtain ⟨ad, A', c', rfl, hbl, k0, k1, k2, k3, k4, k5, k6, hk2⟩ := hk'.get hlt
      go_wp2_with fail
      refine (toIns_any ins[k] _ A' c' _ hk2 (HB.out _ (List.getElem_mem hlt)).term).mono ?_
      rintro e w2 ⟨A2, rfl, hk3, hb2⟩
      have ho2 := own_below ho hb2
      obtain ⟨u0, hu0⟩ := own_has ho2 (j := k * 7 + 0) (by omega)
      obtain ⟨u1, hu1⟩ := own_has ho2 (j := k * 7 + 1) (by omega)
      obtain ⟨u2, hu2⟩ := own_has ho2 (j := k * 7 + 2) (by omega)
      obtain ⟨u3, hu3⟩ := own_has ho2 (j := k * 7 + 3) (by omega)
      obtain ⟨u4, hu4⟩ := own_has ho2 (j := k * 7 + 4) (by omega)
      obtain ⟨u5, hu5⟩ := own_has ho2 (j := k * 7 + 5) (by omega)
      obtain ⟨u6, hu6⟩ := own_has ho2 (j := k * 7 + 6) (by omega)
      have hf0 := ho2.frozenAt (k * 7 + 0)
      have hf1 := ho2.frozenAt (k * 7 + 1)
      have hf2 := ho2.frozenAt (k * 7 + 2)
      have hf3 := ho2.frozenAt (k * 7 + 3)
      have hf4 := ho2.frozenAt (k * 7 + 4)
      have hf5 := ho2.frozenAt (k * 7 + 5)
      have hf6 := ho2.frozenAt (k * 7 + 6)
      rw [Nat.add_zero] at hu0 hf0
      go_wp2_with fail
      obtain ⟨s1, s2⟩ := setL_own [.int .i64 ins[k].op, .int .i64 ins[k].arg, .int .i64 ins[k].term.kind, .int .i64 ins[k].term.num, .string ins[k].term.name, .slice A2 ins[k].term.kids.length ins[k].term.kids.length, .int .i64 ins[k].to] w2 ys (k * 7) ho2
      have s3 := s2.size
      have s4 := hb2.size
      have hnew : TmAt (High w2 (w.heap.size + 1)) w2.heap.size ins[k].term [.int .i64 ins[k].term.kind, .int .i64 ins[k].term.num, .string ins[k].term.name, .slice A2 ins[k].term.kids.length ins[k].term.kids.length] := TmAt.make (hk3.sub (Nat.le_refl _) (high_mono hsz))
      go_roundw
      case rel =>
        refine ⟨k + 1, _, _, fun i => if i = k then [.int .i64 ins[k].term.kind, .int .i64 ins[k].term.num, .string ins[k].term.name, .slice A2 ins[k].term.kids.length ins[k].term.kids.length] else ds i, by omega, by go_num, s1, HA.out.put _ rfl ho2.1 hlt, ?_, (below_trans' hbr hb2).grown s2 (Nat.le_trans hbr.size s4) (fun k hk => by cases hk; exact Nat.le_refl _), Nat.le_trans (Nat.le_trans hsz s4) s3⟩
        intro i h hi
        by_cases e : i = k
        · subst e
          dsimp only
          rw [if_pos rfl, if_pos rfl]
          exact ⟨rfl, hnew.sub s3 (high_grown (Nat.le_refl _) s2 (by omega))⟩
        · dsimp only
          rw [if_neg e, if_neg e]
          exact ⟨(HT.out i h (by omega)).1, (HT.out i h (by omega)).2.sub (Nat.le_trans s4 s3) fun p u hp => high_grown (Nat.le_refl _) s2 (by omega) p u (high_below (Nat.le_refl _) hb2 p u hp)⟩
      case measure => simp [intOf]; omega
    · go_wp2
      go_ret
      obtain rfl : k = ins.length := by omega
      refine ⟨_, rfl, ⟨ds, fun i hi => ⟨?_, (HT.out i hi hi).2.sub (Nat.le_refl _) (high_mono (by omega))⟩⟩, hbr⟩
      have := HA.out.row (own_high ho) hi
      rwa [(HT.out i hi hi).1] at this
end Go.Proofs.Ytjnlmiekldflhaa
