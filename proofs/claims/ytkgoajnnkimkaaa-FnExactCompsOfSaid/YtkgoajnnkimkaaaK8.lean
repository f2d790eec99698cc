/- Contracts of GraphOk and CompsOf, of the program and of the reference. -/
import Derived.Test.YtkgoajnnkimkaaaK5
import Derived.Test.YtkgoajnnkimkaaaK7
set_option linter.unusedSimpArgs false
set_option linter.unusedVariables false
namespace Go.Proofs.Ytkgoajnnkimkaaa
open Go.ChangeShapes Go.WideShapes Go.ChangeAt Go.RowKit

/-- All but the blocks of S is as it was. -/
structure Fq (S : Nat → Prop) (w w' : World) : Prop where
  size : w.heap.size ≤ w'.heap.size
  block : ∀ b, b < w.heap.size → ¬ S b → w'.heap[b]? = w.heap[b]?
section
variable {S S' : Nat → Prop} {w w' w'' : World}
theorem Fq.refl (S : Nat → Prop) (w : World) : Fq S w w := ⟨Nat.le_refl _, fun _ _ _ => rfl⟩
theorem Fq.trans (h : Fq S w w') (k : Fq S w' w'') : Fq S w w'' :=
  ⟨Nat.le_trans h.size k.size, fun b hb hs => (k.block b (Nat.lt_of_lt_of_le hb h.size) hs).trans (h.block b hb hs)⟩
theorem Fq.mono (h : Fq S w w') (hs : ∀ b, S b → S' b) : Fq S' w w' := ⟨h.size, fun b hb h' => h.block b hb fun h2 => h' (hs b h2)⟩
theorem Fq.of_below (h : Below w.heap.size w w') : Fq S w w' := ⟨h.size, fun b hb _ => h.block b hb⟩
theorem Fq.cell (h : Fq S w w') {a : Addr} {v : Value} (hc : w.cell? a = some v) (hs : ¬ S a.block) : w'.cell? a = some v := by
  rw [← hc]
  exact World.cell?_of_block (w := w) (h.block a.block (World.block_lt_of_cell? w a hc) hs)
theorem Fq.own (h : Fq S w w') {base : Nat} {t : TypeId} {s n : Nat} {v : Value} {xs : List Value} (ho : w.ownsRow base t s v n xs) (hs : ∀ x, v.ownBlock = some x → ¬ S x) : w'.ownsRow base t s v n xs := by
  refine ⟨ho.1, ?_⟩
  rcases ho.2 with h0 | ⟨b, cap, cur, e, hb, hh, r⟩
  · exact .inl h0
  · refine .inr ⟨b, cap, cur, e, hb, ?_, r⟩
    subst e
    exact (h.block b (Array.getElem?_eq_some_iff.1 hh).1 (hs b rfl)).trans hh
/-- One own row is grown, or set; it is of S, or new. -/
theorem Fq.grown (h : Fq S w w') {u : Option Nat} (hg : w'.grownBy w'' u) (hu : ∀ x, u = some x → S x ∨ w.heap.size ≤ x) : Fq S w w'' :=
  ⟨Nat.le_trans h.size hg.size, fun b hb hs => (hg.block b (Nat.lt_of_lt_of_le hb h.size) (fun e => by
    rcases hu b (by first | exact e | exact e.symm) with h1 | h1
    · exact hs h1
    · omega)).trans (h.block b hb hs)⟩
theorem RI.fq (h : Fq S w w') {b0 : Nat} {v : Value} {rr : List (Option Addr × Nat × List Value)} {cs : List (List Nat)} (hI : RI w b0 v rr cs) (hv : ∀ x, v.ownBlock = some x → ¬ S x) (hr : ∀ p ∈ rr, ∀ x, (rowV p).ownBlock = some x → ¬ S x) : RI w' b0 v rr cs :=
  ⟨⟨h.own hI.l.f hv, fun i hi => h.own (hI.l.r i hi) (hr _ (List.getElem_mem hi)), hI.l.ne, hI.l.pw⟩, hI.c⟩
/-- A table of bools, read later. -/
theorem RB.later {b0 n m c : Nat} {P : Nat → Nat → Bool} {A : Option Addr} {rr : List (Option Addr × Nat × List Value)} (h : RB w b0 n P (.slice A m c) rr) (hS : ∀ x, b0 ≤ x → x < w.heap.size → ¬ S x) {V : World} (hV : Fq S w V) {i j : Nat} (hi : i < n) (hj : j < n) :
    ∃ g gr cr, A = some ⟨g, 0, none⟩ ∧ V.cell? ⟨g, i, none⟩ = some (.slice (some ⟨gr, 0, none⟩) n cr) ∧ V.cell? ⟨gr, j, none⟩ = some (.bool (P i j)) := by
  obtain ⟨g, gr, cr, e, h1, h2, _, hgr, _⟩ := h.get hi hj
  have hg := h.l.f.lt g (by rw [e]; rfl)
  exact ⟨g, gr, cr, e, hV.cell h1 (hS g hg.1 hg.2), hV.cell h2 (hS gr hgr (World.block_lt_of_cell? w _ h2))⟩
end

/-- What GraphOk answers. -/
def arcIn (n : Int) (e : Int × Int) : Bool := decide (0 ≤ e.1) && decide (e.1 < n) && decide (0 ≤ e.2) && decide (e.2 < n)
def graphB (n : Int) (es : List (Int × Int)) : Bool := decide (0 ≤ n) && decide (n ≤ 60) && decide (es.length ≤ 2000) && es.all (arcIn n)
theorem graph_yes {n : Int} {es : List (Int × Int)} (h : graphB n es = true) : ∃ m : Nat, n = m ∧ m ≤ 60 ∧ es.length ≤ 2000 ∧ ArcsIn m es := by
  simp only [graphB, Bool.and_eq_true, decide_eq_true_eq, List.all_eq_true, arcIn] at h
  obtain ⟨⟨⟨h1, h2⟩, h3⟩, h4⟩ := h
  refine ⟨n.toNat, by omega, by omega, h3, fun e he => ?_⟩
  obtain ⟨⟨⟨a1, a2⟩, a3⟩, a4⟩ := h4 e he
  omega
theorem graph_no {n : Int} {es : List (Int × Int)} (h : ¬ (0 ≤ n ∧ n ≤ 60 ∧ es.length ≤ 2000)) : graphB n es = false := by
  cases e : graphB n es
  · rfl
  · simp only [graphB, Bool.and_eq_true, decide_eq_true_eq] at e
    omega
theorem graph_all {n : Int} {es : List (Int × Int)} (h : 0 ≤ n ∧ n ≤ 60 ∧ es.length ≤ 2000) : graphB n es = es.all (arcIn n) := by
  simp only [graphB, decide_eq_true h.1, decide_eq_true h.2.1, decide_eq_true h.2.2, Bool.true_and]
theorem all_hit {n : Int} {es : List (Int × Int)} {j : Nat} (hj : j < es.length) (h : arcIn n es[j] = false) : es.all (arcIn n) = false :=
  List.all_eq_false.2 ⟨_, List.getElem_mem hj, by simp [h]⟩
theorem all_step {n : Int} {es : List (Int × Int)} {j : Nat} (hj : j < es.length) (h : arcIn n es[j] = true) (ha : (es.take j).all (arcIn n) = true) : (es.take (j + 1)).all (arcIn n) = true := by
  rw [List.take_succ_eq_append_getElem hj, List.all_append, ha]; simp [h]

set_option maxRecDepth 100000 in
set_option maxHeartbeats 4000000 in
theorem graphOk_i {B : Nat} (n : Int) (A : Option Addr) (c : Nat) (es : List (Int × Int)) (w : World) (he : Rd w B A (arcCells es)) (hl : es.length ≤ 1048576) (hf : Fits n) :
    Calls Try.prog 28 #[.int .i64 n, .slice A es.length c] w fun e w' => e = .returned (.bool (graphB n es)) ∧ Below w.heap.size w w' := by
  have he0 := he.full
  unfold Fits at hf
  clear he
  by_cases hg : 0 ≤ n ∧ n ≤ 60 ∧ es.length ≤ 2000
  · have HG := Lib.hid (graph_all hg)
    obtain ⟨g1, g2, g3⟩ := hg
    have g1' : ¬ n < 0 := by omega
    have g2' : ¬ n > 60 := by omega
    have g3' : ¬ (es.length : Int) > 2000 := by omega
    go_enter Try.func28, Try.ntmps28
    go_wp2_with fail
    go_loopg [20] es.length (fun l i wr => ∃ j : Nat, j ≤ es.length ∧ l = es.length - j ∧ i = .int .i64 j ∧ (es.take j).all (arcIn n) = true ∧ Below w.heap.size w wr)
    case atStart => exact ⟨0, by omega, by omega, rfl, rfl, Below.refl _ _⟩
    case round =>
      obtain ⟨j, hj, rfl, rfl, hall, hb⟩ := hrel
      have HA := Lib.hid hall
      clear hall
      by_cases hlt : j < es.length
      · obtain ⟨ad, rfl, _, k0, k1⟩ := (he0.below hb).arc hlt
        have HN := Lib.hid (fun h => all_hit (n := n) hlt h)
        have HS := Lib.hid (fun h => all_step (n := n) hlt h HA.out)
        have HI := Lib.hid (show arcIn n es[j] = (decide (0 ≤ es[j].1) && decide (es[j].1 < n) && decide (0 ≤ es[j].2) && decide (es[j].2 < n)) from rfl)
        generalize es[j].1 = x at k0 HI
        generalize es[j].2 = y at k1 HI
        have hb' := below_alloc hb (Nat.le_refl _) (.cells #[.int .i64 x, .int .i64 y] 52)
        by_cases h1 : x < 0
        · have HF := Lib.hid (HN.out (by rw [HI.out, decide_eq_false (by omega)]; simp))
          go_wp2_with fail
          go_ret
          exact ⟨ret_bool (by rw [HG.out, HF.out]), hb'⟩
        by_cases h2 : n ≤ x
        · have HF := Lib.hid (HN.out (by rw [HI.out, decide_eq_false (by omega : ¬ x < n)]; simp))
          have h2' : x ≥ n := h2
          go_wp2_with fail
          go_ret
          exact ⟨ret_bool (by rw [HG.out, HF.out]), hb'⟩
        have h2' : ¬ x ≥ n := by omega
        by_cases h3 : y < 0
        · have HF := Lib.hid (HN.out (by rw [HI.out, decide_eq_false (by omega : ¬ 0 ≤ y)]; simp))
          go_wp2_with fail
          go_ret
          exact ⟨ret_bool (by rw [HG.out, HF.out]), hb'⟩
        by_cases h4 : n ≤ y
        · have HF := Lib.hid (HN.out (by rw [HI.out, decide_eq_false (by omega : ¬ y < n)]; simp))
          have h4' : y ≥ n := h4
          go_wp2_with fail
          go_ret
          exact ⟨ret_bool (by rw [HG.out, HF.out]), hb'⟩
        have h4' : ¬ y ≥ n := by omega
        have HF := Lib.hid (HS.out (by rw [HI.out, decide_eq_true (by omega : 0 ≤ x), decide_eq_true (by omega : x < n), decide_eq_true (by omega : 0 ≤ y), decide_eq_true (by omega : y < n)]; rfl))
        go_wp2_with fail
        go_roundg (es.length - (j + 1))
        case measure => omega
        case rel => exact ⟨j + 1, by omega, rfl, by go_num, HF.out, hb'⟩
      · obtain rfl : j = es.length := by omega
        go_wp2_with fail
        go_ret
        exact ⟨ret_bool (by rw [HG.out, ← HA.out, List.take_length]), hb⟩
  · have HG := Lib.hid (graph_no hg)
    by_cases g1 : n < 0
    · go_enter Try.func28, Try.ntmps28
      go_wp2_with fail
      go_ret
      exact ⟨ret_bool HG.out.symm, Below.refl _ _⟩
    by_cases g2 : n > 60
    · go_enter Try.func28, Try.ntmps28
      go_wp2_with fail
      go_ret
      exact ⟨ret_bool HG.out.symm, Below.refl _ _⟩
    have g3 : (es.length : Int) > 2000 := by omega
    go_enter Try.func28, Try.ntmps28
    go_wp2_with fail
    go_ret
    exact ⟨ret_bool HG.out.symm, Below.refl _ _⟩

theorem inB_any (x a b : Int) (w : World) :
    Calls Try.prog 43 #[.int .i64 x, .int .i64 a, .int .i64 b] w fun e w' => e = .returned (.bool (decide (a ≤ x) && decide (x ≤ b))) ∧ w = w' := by
  go_enter Try.func43, Try.ntmps43
  go_wp2
  all_goals go_ret
  all_goals refine ⟨?_, rfl⟩
  all_goals simp [*]
  omega
set_option maxRecDepth 100000 in
set_option maxHeartbeats 4000000 in
theorem graphOk_s {B : Nat} (n : Int) (A : Option Addr) (c : Nat) (es : List (Int × Int)) (w : World) (he : Rd w B A (arcCells es)) (hl : es.length ≤ 1048576) (hf : Fits n) :
    Calls Try.prog 25 #[.int .i64 n, .slice A es.length c] w fun e w' => e = .returned (.bool (graphB n es)) ∧ w = w' := by
  unfold Fits at hf
  by_cases hg : 0 ≤ n ∧ n ≤ 60
  · have H1 := Lib.hid (show (decide (0 ≤ n) && decide (n ≤ 60)) = true from by simp [hg])
    by_cases hg3 : es.length ≤ 2000
    · have HG := Lib.hid (graph_all ⟨hg.1, hg.2, hg3⟩)
      have g3' : ¬ (es.length : Int) > 2000 := by omega
      obtain ⟨g1, g2⟩ := hg
      go_enter Try.func25, Try.ntmps25
      go_wp2_with fail
      refine (inB_any _ _ _ _).mono ?_
      rintro e w' ⟨rfl, rfl⟩
      rw [H1.out]
      go_wp2_with fail
      go_loopg [5] es.length (fun l i wr => ∃ j : Nat, j ≤ es.length ∧ l = es.length - j ∧ i = .int .i64 j ∧ (es.take j).all (arcIn n) = true ∧ w = wr)
      case atStart => exact ⟨0, by omega, by omega, rfl, rfl, rfl⟩
      case round =>
        obtain ⟨j, hj, rfl, rfl, hall, rfl⟩ := hrel
        have HA := Lib.hid hall
        clear hall
        by_cases hlt : j < es.length
        · obtain ⟨ad, rfl, _, k0, k1⟩ := he.arc hlt
          have HN := Lib.hid (fun h => all_hit (n := n) hlt h)
          have HS := Lib.hid (fun h => all_step (n := n) hlt h HA.out)
          have HI := Lib.hid (show arcIn n es[j] = (decide (0 ≤ es[j].1) && decide (es[j].1 < n) && decide (0 ≤ es[j].2) && decide (es[j].2 < n)) from rfl)
          generalize es[j].1 = x at k0 HI
          generalize es[j].2 = y at k1 HI
          by_cases h1 : 0 ≤ x ∧ x < n
          · have D1 := Lib.hid (show (decide (0 ≤ x) && decide (x ≤ n - 1)) = true from by simp; omega)
            by_cases h2 : 0 ≤ y ∧ y < n
            · have D2 := Lib.hid (show (decide (0 ≤ y) && decide (y ≤ n - 1)) = true from by simp; omega)
              have HF := Lib.hid (HS.out (by rw [HI.out, decide_eq_true h1.1, decide_eq_true h1.2, decide_eq_true h2.1, decide_eq_true h2.2]; rfl))
              clear h1 h2
              go_wp2_with fail
              refine (inB_any _ _ _ _).mono ?_
              rintro e w' ⟨rfl, rfl⟩
              rw [D1.out]
              go_wp2_with fail
              refine (inB_any _ _ _ _).mono ?_
              rintro e w' ⟨rfl, rfl⟩
              rw [D2.out]
              go_wp2_with fail
              go_roundg (es.length - (j + 1))
              case measure => omega
              case rel => exact ⟨j + 1, by omega, rfl, by go_num, HF.out, rfl⟩
            · have D2 := Lib.hid (show (decide (0 ≤ y) && decide (y ≤ n - 1)) = false from by simp; omega)
              have HF := Lib.hid (HN.out (by
                rw [HI.out, Bool.and_assoc, show (decide (0 ≤ y) && decide (y < n)) = false from by simp; omega]; simp))
              clear h1 h2
              go_wp2_with fail
              refine (inB_any _ _ _ _).mono ?_
              rintro e w' ⟨rfl, rfl⟩
              rw [D1.out]
              go_wp2_with fail
              refine (inB_any _ _ _ _).mono ?_
              rintro e w' ⟨rfl, rfl⟩
              rw [D2.out]
              go_wp2_with fail
              go_ret
              exact ⟨ret_bool (by rw [HG.out, HF.out]), rfl⟩
          · have D1 := Lib.hid (show (decide (0 ≤ x) && decide (x ≤ n - 1)) = false from by simp; omega)
            have HF := Lib.hid (HN.out (by rw [HI.out, show (decide (0 ≤ x) && decide (x < n)) = false from by simp; omega]; simp))
            clear h1
            go_wp2_with fail
            refine (inB_any _ _ _ _).mono ?_
            rintro e w' ⟨rfl, rfl⟩
            rw [D1.out]
            go_wp2_with fail
            go_ret
            exact ⟨ret_bool (by rw [HG.out, HF.out]), rfl⟩
        · obtain rfl : j = es.length := by omega
          go_wp2_with fail
          go_ret
          exact ⟨ret_bool (by rw [HG.out, ← HA.out, List.take_length]), rfl⟩
    · have HG := Lib.hid (graph_no (n := n) (es := es) fun h => hg3 h.2.2)
      have g3' : (es.length : Int) > 2000 := by omega
      clear hg hg3
      go_enter Try.func25, Try.ntmps25
      go_wp2_with fail
      refine (inB_any _ _ _ _).mono ?_
      rintro e w' ⟨rfl, rfl⟩
      rw [H1.out]
      go_wp2_with fail
      go_ret
      exact ⟨ret_bool HG.out.symm, rfl⟩
  · have H1 := Lib.hid (show (decide (0 ≤ n) && decide (n ≤ 60)) = false from by simp; omega)
    have HG := Lib.hid (graph_no (n := n) (es := es) fun h => hg ⟨h.1, h.2.1⟩)
    clear hg
    go_enter Try.func25, Try.ntmps25
    go_wp2_with fail
    refine (inB_any _ _ _ _).mono ?_
    rintro e w' ⟨rfl, rfl⟩
    rw [H1.out]
    go_wp2_with fail
    go_ret
    exact ⟨ret_bool HG.out.symm, rfl⟩
/-- What CompsOf answers. -/
def compsOfN (n : Int) (es : List (Int × Int)) : List (List Nat) := if graphB n es = true then compsN (wsh (arcB es) n.toNat) n.toNat else []
theorem compsOf_i {B : Nat} (n : Int) (A : Option Addr) (c : Nat) (es : List (Int × Int)) (w : World) (he : Rd w B A (arcCells es)) (hl : es.length ≤ 1048576) (hf : Fits n) :
    Calls Try.prog 8 #[.int .i64 n, .slice A es.length c] w (NewComps w (compsOfN n es)) := by
  have HG := Lib.hid (graphOk_i n A c es w he hl hf)
  cases hg : graphB n es
  · rw [hg] at HG
    have HZ := Lib.hid (show compsOfN n es = [] from by rw [compsOfN, hg]; rfl)
    clear hg he
    go_enter Try.func8, Try.ntmps8
    go_wp2_with fail
    refine HG.out.mono ?_
    rintro e w1 ⟨rfl, hb1⟩
    go_wp2_with fail
    go_ret
    rw [HZ.out]
    exact ⟨none, 0, [], rfl, RI.nil _ _, hb1⟩
  · rw [hg] at HG
    obtain ⟨m, rfl, hm, hl2, hin⟩ := graph_yes hg
    have HZ := Lib.hid (show compsOfN m es = compsN (wsh (arcB es) m) m from by rw [compsOfN, hg]; rfl)
    have HC := Lib.hid (fun V (hV : Below w.heap.size w V) => compSets_any m A c es V hm (he.full.below hV) hl2 hin)
    clear hg he hf hin
    go_enter Try.func8, Try.ntmps8
    go_wp2_with fail
    refine HG.out.mono ?_
    rintro e w1 ⟨rfl, hb1⟩
    go_wp2_with fail
    refine (HC.out _ hb1).mono ?_
    rintro e w2 ⟨Ao, co, rr, rfl, hI, hb2⟩
    go_wp2_with fail
    go_ret
    rw [HZ.out]
    exact ⟨Ao, co, rr, rfl, ⟨hI.l.mono hb1.size, hI.c⟩, below_trans' hb1 hb2⟩
end Go.Proofs.Ytkgoajnnkimkaaa
