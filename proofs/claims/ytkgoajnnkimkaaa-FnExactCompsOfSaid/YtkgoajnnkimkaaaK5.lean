/- Contract of l11Reach: which two have a way. -/
import Derived.Test.YtkgoajnnkimkaaaK4
set_option linter.unusedSimpArgs false
set_option linter.unusedVariables false
namespace Go.Proofs.Ytkgoajnnkimkaaa
open Go.ChangeShapes Go.WideShapes Go.ChangeAt Go.RowKit

theorem info_rowB : (Try.prog.info? 50).map (fun i => (i.zero, i.size, i.bytes)) = some (some (.slice none 0 0), 1, 24) := by kernel_rfl
section
variable (w : World) {ops : Array Oper} {rest : List Oper} {o : Oper} {a : Act} {Q : Exit → Act → World → Prop}
theorem append_rowB {wr : World} (A : Option Addr) (m c : Nat) (hgd : o.guard = none) (s x : Operand) (ho : o.op = .call { callee := .builtin .append, args := #[s, x], argTypes := #[48, 48] })
    {base : Nat} {v : Value} {n : Nat} {xs : List Value} (hown : wr.ownsRow base 50 1 v n xs) (hs : a.eval s = v) (hx : a.eval x = .slice (some ⟨wr.heap.size, 0, none⟩) 1 1)
    (hn : n ≤ 1099511627775) (hbase : base ≤ wr.heap.size)
    (hK : ∀ A' c' w', w'.ownsRow base 50 1 (.slice A' (n + 1) c') (n + 1) (xs ++ [.slice A m c]) → wr.grownBy w' v.ownBlock → ((Value.slice A' (n + 1) c').ownBlock = v.ownBlock ∨ (Value.slice A' (n + 1) c').ownBlock = some (wr.heap.size + 1)) →
      wpList Try.prog ops Q rest (a.put o.dst (.slice A' (n + 1) c')) w') : wpList Try.prog ops Q (o :: rest) a (wr.alloc (.cells #[.slice A m c] 50)) :=
  append_cells Try.underlying48 info_rowB rfl (by omega) (by omega) hgd s x ho [.slice A m c] hown hs hx rfl (by simp [Value.oneCell']) hn hbase
    fun A' c' w' h1 h2 h3 => hK A' c' w' h1 h2 h3
end
theorem falseV (n : Nat) : (List.replicate n false).map bv = bitsV n fun _ => false := by
  apply List.ext_getElem
  · simp [bitsV]
  · intro i h1 h2; simp [bitsV]
/-- Rows of n bools laid down so far: all false. -/
structure RB0 (W : World) (b0 n j : Nat) (v : Value) (rr : List (Option Addr × Nat × List Value)) : Prop where
  l : RL W b0 50 4 v rr
  len : rr.length = j
  c : ∀ i (h : i < rr.length), rr[i].2.2 = bitsV n fun _ => false
theorem RB0.full {W : World} {b0 n : Nat} {v : Value} {rr : List (Option Addr × Nat × List Value)} (h : RB0 W b0 n n v rr) (es : List (Int × Int)) : RB W b0 n (arcB (es.take 0)) v rr := ⟨h.l, h.len, fun i hi => (h.c i hi).trans (bitsV_congr fun j _ => by simp [arcB])⟩
theorem RB0.add {W W' : World} {b0 n j cn : Nat} {An : Option Addr} {v v' : Value} {rr : List (Option Addr × Nat × List Value)} (h : RB0 W b0 n j v rr) {b1 : Nat} (hn : W.ownsRow b1 4 1 (.slice An n cn) n ((List.replicate n false).map bv)) (hb : b0 ≤ b1)
    (hne : Apt (.slice An n cn) v) (hns : ∀ q ∈ rr, Apt (.slice An n cn) (rowV q))
    (hf : W'.ownsRow b0 50 1 v' (rr.length + 1) (rr.map rowV ++ [.slice An n cn])) (hg : W.grownBy W' v.ownBlock) (hv : v'.ownBlock = v.ownBlock ∨ v'.ownBlock = some (W.heap.size + 1)) :
    RB0 W' b0 n (j + 1) v' (rr ++ [(An, cn, bitsV n fun _ => false)]) := by
  have ev : rowV (An, cn, bitsV n fun _ => false) = .slice An n cn := by rw [rowV, bitsV_len]
  refine ⟨h.l.add (p := (An, cn, bitsV n fun _ => false)) ?_ ?_ ?_ ?_ hg hv, by simp [h.len], fun i hi => ?_⟩
  · rw [ev, bitsV_len, ← falseV]; exact own_mono hn hb
  · rw [ev]; exact hne
  · rw [ev]; exact hns
  · rw [List.map_append, List.map_cons, List.map_nil, ev]; exact hf
  · rw [List.length_append, List.length_singleton] at hi
    rcases Nat.lt_or_ge i rr.length with hl | hl
    · rw [List.getElem_append_left hl]; exact h.c i hl
    · rw [List.getElem_append_right hl]; simp
/-- The rows up to i have their way through k; row i has it up to j. -/
def midB (R : Nat → Nat → Bool) (k i j x y : Nat) : Bool := if x < i then wsh R (k + 1) x y else if x = i ∧ y < j then wsh R (k + 1) x y else wsh R k x y
theorem midB_k (R : Nat → Nat → Bool) (k i j : Nat) : midB R k i j k j = wsh R k k j := by
  unfold midB
  split
  · exact wsh_row R k j
  · rw [if_neg (by omega)]
theorem midB_ik {R : Nat → Nat → Bool} {k i j : Nat} (h : wsh R k i k = true) : midB R k i j i k = true := by
  unfold midB
  rw [if_neg (by omega)]
  split
  · simp [wsh, h]
  · exact h
section
variable {W : World} {b0 n : Nat} {v : Value} {rr : List (Option Addr × Nat × List Value)} {R : Nat → Nat → Bool} {k i j : Nat}
theorem RB.arc {es : List (Int × Int)} {j f t : Nat} {rr' : List (Option Addr × Nat × List Value)} (h : RB W b0 n (fun x y => if x = f ∧ y = t then true else arcB (es.take j) x y) v rr') (hj : j < es.length) (ef : es[j].1 = f) (et : es[j].2 = t) : RB W b0 n (arcB (es.take (j + 1))) v rr' := h.congr fun x y _ _ => by
  rw [arcB_snoc j x y hj, ef, et]
  by_cases e1 : x = f
  · by_cases e2 : y = t
    · subst e1 e2; simp
    · have : ((t : Int) == (y : Int)) = false := by simp; omega
      simp [e2, this]
  · have : ((f : Int) == (x : Int)) = false := by simp; omega
    simp [e1, this]
theorem RB.mid0 (h : RB W b0 n (wsh R k) v rr) : RB W b0 n (midB R k 0 0) v rr := h.congr fun x y _ _ => by simp [midB]
theorem RB.midN (h : RB W b0 n (midB R k n 0) v rr) : RB W b0 n (wsh R (k + 1)) v rr := h.congr fun x y hx _ => by simp [midB, hx]
theorem RB.skip (h : RB W b0 n (midB R k i 0) v rr) (hw : wsh R k i k = false) : RB W b0 n (midB R k (i + 1) 0) v rr := h.congr fun x y _ _ => by
  unfold midB
  by_cases e : x < i
  · rw [if_pos e, if_pos (by omega)]
  · rw [if_neg e, if_neg (by omega)]
    by_cases e2 : x = i
    · subst e2; rw [if_pos (by omega), wsh, hw]; simp
    · rw [if_neg (by omega), if_neg (by omega)]
theorem RB.next (h : RB W b0 n (midB R k i n) v rr) : RB W b0 n (midB R k (i + 1) 0) v rr := h.congr fun x y _ hy => by
  unfold midB
  by_cases e : x < i
  · rw [if_pos e, if_pos (by omega)]
  · rw [if_neg e]
    by_cases e2 : x = i
    · subst e2; rw [if_pos ⟨rfl, hy⟩, if_pos (by omega)]
    · rw [if_neg (fun h => e2 h.1), if_neg (by omega), if_neg (by omega)]
theorem RB.stay (h : RB W b0 n (midB R k i j) v rr) (hw : wsh R k k j = false) : RB W b0 n (midB R k i (j + 1)) v rr := h.congr fun x y _ _ => by
  unfold midB
  by_cases e : x < i
  · rw [if_pos e, if_pos e]
  · rw [if_neg e, if_neg e]
    by_cases e2 : x = i ∧ y < j
    · rw [if_pos e2, if_pos ⟨e2.1, by omega⟩]
    · rw [if_neg e2]
      by_cases e3 : x = i ∧ y < j + 1
      · obtain ⟨e4, e5⟩ := e3
        have : y = j := by
          rcases Nat.lt_or_ge y j with h1 | h1
          · exact absurd ⟨e4, h1⟩ e2
          · omega
        subst this
        rw [if_pos ⟨e4, e5⟩, wsh, hw]; simp
      · rw [if_neg e3]
theorem RB.hit {rr' : List (Option Addr × Nat × List Value)} (h : RB W b0 n (fun x y => if x = i ∧ y = j then true else midB R k i j x y) v rr') (hw : wsh R k k j = true) (hi : wsh R k i k = true) : RB W b0 n (midB R k i (j + 1)) v rr' := h.congr fun x y _ _ => by
  unfold midB
  by_cases e : x = i ∧ y = j
  · rw [if_pos e, if_neg (by omega), if_pos (by omega), e.1, e.2, wsh, hw, hi]; simp
  · rw [if_neg e]
    by_cases e1 : x < i
    · rw [if_pos e1, if_pos e1]
    · rw [if_neg e1, if_neg e1]
      by_cases e2 : x = i ∧ y < j
      · rw [if_pos e2, if_pos ⟨e2.1, by omega⟩]
      · rw [if_neg e2, if_neg]
        rintro ⟨h1, h2⟩
        rcases Nat.lt_or_ge y j with h3 | h3
        · exact e2 ⟨h1, h3⟩
        · exact e ⟨h1, by omega⟩
end
/-- A new table of bools. -/
def NewB (w : World) (n : Nat) (P : Nat → Nat → Bool) (e : Ending) (w' : World) : Prop := ∃ A c rr, e = .returned (.slice A n c) ∧ RB w' w.heap.size n P (.slice A n c) rr ∧ Below w.heap.size w w'

set_option maxRecDepth 100000 in
set_option maxHeartbeats 8000000 in
theorem l11Reach_any {B : Nat} (n : Nat) (A : Option Addr) (c : Nat) (es : List (Int × Int)) (w : World) (hn : n ≤ 60) (he : Rd w B A (arcCells es)) (hl : es.length ≤ 2000) (hin : ArcsIn n es) :
    Calls Try.prog 26 #[.int .i64 n, .slice A es.length c] w (NewB w n (wsh (arcB es) n)) := by
  have he0 := he.full
  have HIN := Lib.hid hin
  have hb0 := below_alloc0 w (.cells #[] 50)
  have hl0 : RB0 (w.alloc (.cells #[] 50)) w.heap.size n 0 (.slice (some ⟨w.heap.size, 0, none⟩) 0 0) [] := ⟨RL.lit (Nat.le_refl _), rfl, fun i h => by simp at h⟩
  clear he hin
  go_enter Try.func26, Try.ntmps26
  go_wp2_with fail
  generalize w.alloc (.cells #[] 50) = w0 at hb0 hl0 ⊢
  go_loopg [5, 6] n (fun l v i wr => ∃ (j : Nat) (rr : List (Option Addr × Nat × List Value)), j ≤ n ∧ l = n - j ∧ i = .int .i64 j ∧ RB0 wr w.heap.size n j v rr ∧ Below w.heap.size w wr)
  case atStart => exact ⟨0, [], by omega, by omega, rfl, hl0, hb0⟩
  case round =>
    clear hl0 hb0
    obtain ⟨j, rr, hj, rfl, rfl, hR, hb⟩ := hrel
    obtain ⟨cf, Af, rfl⟩ : ∃ cf Af, _ := by
      obtain ⟨Af, cf, e⟩ := hR.l.form
      exact ⟨cf, Af, e⟩
    have HLEN := Lib.hid hR.len
    have hle : rr.length ≤ 60 := by have := hR.len; omega
    by_cases hlt : j < n
    · have HR := Lib.hid hR
      clear hR
      have hsz := hb.size
      go_wp2_with (first
        | (at_make; refine make_bools _ rfl _ _ rfl n rfl rfl (by omega) ?_; intro w2 hown2 hb2)
        | (at_builtin; refine append_rowB (some ⟨wr.heap.size, 0, none⟩) n n rfl _ _ rfl ((HR.out.l.below hb2).f) rfl rfl (by omega) (Nat.le_trans hsz hb2.size) ?_; intro A4 c4 w4 ho4 hg4 hv4))
      go_roundg (n - (j + 1))
      case measure => omega
      case rel =>
        have h2 := HR.out.l.below hb2
        refine ⟨j + 1, rr ++ [(some ⟨wr.heap.size, 0, none⟩, n, bitsV n fun _ => false)], by omega, rfl, by go_num, ?_, below_append (below_trans' hb hb2) h2.f hg4 (Nat.le_trans hsz hb2.size) (Nat.le_refl _)⟩
        have h2' : RB0 w2 w.heap.size n j (.slice Af rr.length cf) rr := ⟨h2, HR.out.len, HR.out.c⟩
        exact h2'.add hown2 hsz (Apt.fresh hown2 HR.out.l.f (Nat.le_refl _)) (fun q hq => by
          obtain ⟨i, hi, rfl⟩ := List.getElem_of_mem hq
          exact Apt.fresh hown2 (HR.out.l.r i hi) (Nat.le_refl _)) ho4 hg4 hv4
    · obtain rfl : j = n := by omega
      have hR := hR.full es
      rw [HLEN.out] at hR ⊢
      clear hle HLEN
      go_wp2_with fail
      go_loopg [7] es.length (fun l i wr => ∃ (m : Nat) (rr : List (Option Addr × Nat × List Value)), m ≤ es.length ∧ l = es.length - m ∧ i = .int .i64 m ∧ RB wr w.heap.size j (arcB (es.take m)) (.slice Af j cf) rr ∧ Below w.heap.size w wr)
      case atStart => exact ⟨0, rr, by omega, by omega, rfl, hR, hb⟩
      case round =>
        clear hR hb
        obtain ⟨m, rr, hm, rfl, rfl, hR, hb⟩ := hrel
        have HR := Lib.hid hR
        clear hR
        by_cases hml : m < es.length
        · obtain ⟨ad, rfl, _, k0, k1⟩ := (he0.below hb).arc hml
          obtain ⟨f, t, ef, et, hf, ht⟩ : ∃ f t : Nat, es[m].1 = f ∧ es[m].2 = t ∧ f < j ∧ t < j := by
            obtain ⟨h1, h2, h3, h4⟩ := HIN.out _ (List.getElem_mem hml)
            exact ⟨es[m].1.toNat, es[m].2.toNat, by omega, by omega, by omega, by omega⟩
          rw [ef] at k0
          rw [et] at k1
          obtain ⟨g, gr, cr, rfl, h1, h2, h3, hgr, rr', hS⟩ := HR.out.get hf ht
          have HN := Lib.hid (hS.arc hml ef et)
          have z1 : (0 : Int) ≤ (f : Int) := by omega
          have z2 : (f : Int) < (j : Int) := by omega
          have z3 : (0 : Int) ≤ (t : Int) := by omega
          have z4 : (t : Int) < (j : Int) := by omega
          have HGR := Lib.hid hgr
          clear ef et hS hgr
          go_wp2_with fail
          go_region
          go_wp2_with fail
          go_roundg (es.length - (m + 1))
          case measure => omega
          case rel => exact ⟨m + 1, rr', by omega, rfl, by go_num, HN.out.below (Below.refl _ _).drew, (hb.setCell HGR.out _).drew⟩
        · obtain rfl : m = es.length := by omega
          have HR := Lib.hid (show RB wr w.heap.size j (wsh (arcB es) 0) (.slice Af j cf) rr from by have := HR.out; rwa [List.take_length] at this)
          go_wp2_with fail
          clear he0 HIN
          go_loopg [8, 9, 10] j (fun l i _ _ wr => ∃ (m : Nat) (rr : List (Option Addr × Nat × List Value)), m ≤ j ∧ l = j - m ∧ i = .int .i64 m ∧ RB wr w.heap.size j (wsh (arcB es) m) (.slice Af j cf) rr ∧ Below w.heap.size w wr)
          case atStart => exact ⟨0, rr, by omega, by omega, rfl, HR.out, hb⟩
          case round =>
            clear HR hb
            obtain ⟨m, rr, hm, rfl, rfl, hR, hb⟩ := hrel
            have HR := Lib.hid hR
            clear hR
            by_cases hml : m < j
            · go_wp2_with fail
              go_loopg [9, 10] j (fun l i _ wr => ∃ (x : Nat) (rr : List (Option Addr × Nat × List Value)), x ≤ j ∧ l = j - x ∧ i = .int .i64 x ∧ RB wr w.heap.size j (midB (arcB es) m x 0) (.slice Af j cf) rr ∧ Below w.heap.size w wr)
              case atStart => exact ⟨0, rr, by omega, by omega, rfl, HR.out.mid0, hb⟩
              case round =>
                clear HR hb
                obtain ⟨x, rr, hx, rfl, rfl, hR, hb⟩ := hrel
                have HR := Lib.hid hR
                clear hR
                by_cases hxl : x < j
                · go_wp2_with fail
                  cases hw : wsh (arcB es) m x m
                  · go_loopg [10] 0 (fun l i wr' => wr' = wr ∧ i = .int .i64 0 ∧ l = 0)
                    case atStart => exact ⟨rfl, rfl, rfl⟩
                    case round =>
                      obtain ⟨rfl, rfl, rfl⟩ := hrel
                      obtain ⟨g, gr, cr, rfl, h1, h2, h3, hgr, rr', hS⟩ := HR.out.get hxl hml
                      have e1 : midB (arcB es) m x 0 x m = false := by
                        unfold midB
                        rw [if_neg (by omega), if_neg (by omega)]; exact hw
                      rw [e1] at h2
                      have z0 : (0 : Int) < (j : Int) := by omega
                      have z1 : (0 : Int) ≤ (x : Int) := by omega
                      have z2 : (x : Int) < (j : Int) := by omega
                      have z3 : (0 : Int) ≤ (m : Int) := by omega
                      have z4 : (m : Int) < (j : Int) := by omega
                      have HN := Lib.hid (HR.out.skip hw)
                      clear hw e1 hS hgr
                      go_wp2_with fail
                      go_roundg (j - (x + 1))
                      case measure => omega
                      case rel => exact ⟨x + 1, rr, by omega, rfl, by go_num, HN.out, hb⟩
                  · have HW := Lib.hid hw
                    clear hw
                    go_loopg [10] j (fun l i wr => ∃ (y : Nat) (rr : List (Option Addr × Nat × List Value)), y ≤ j ∧ l = j - y ∧ i = .int .i64 y ∧ RB wr w.heap.size j (midB (arcB es) m x y) (.slice Af j cf) rr ∧ Below w.heap.size w wr)
                    case atStart => exact ⟨0, rr, by omega, by omega, rfl, HR.out, hb⟩
                    case round =>
                      clear HR hb
                      obtain ⟨y, rr, hy, rfl, rfl, hR, hb⟩ := hrel
                      have HR := Lib.hid hR
                      clear hR
                      by_cases hyl : y < j
                      · obtain ⟨g, gr, cr, rfl, h1, h2, h3, hgr, rr1, hS1⟩ := HR.out.get hxl hml
                        rw [midB_ik HW.out] at h2
                        obtain ⟨g', gm, cm, e', m1, m2, m3, hgm, rr2, hS2⟩ := HR.out.get hml hyl
                        cases e'
                        rw [midB_k] at m2
                        obtain ⟨g', gx, cx, e', x1, x2, x3, hgx, rr3, hS3⟩ := HR.out.get hxl hyl
                        cases e'
                        rw [h1] at x1
                        cases x1
                        have z0 : (y : Int) < (j : Int) := by omega
                        have z1 : (0 : Int) ≤ (x : Int) := by omega
                        have z2 : (x : Int) < (j : Int) := by omega
                        have z3 : (0 : Int) ≤ (m : Int) := by omega
                        have z4 : (m : Int) < (j : Int) := by omega
                        have z5 : (0 : Int) ≤ (y : Int) := by omega
                        have HGX := Lib.hid hgx
                        cases hk : wsh (arcB es) m m y
                        · rw [hk] at m2
                          have HN := Lib.hid (HR.out.stay hk)
                          clear hk hS1 hS2 hS3 hgr hgm hgx
                          go_wp2_with fail
                          go_roundg (j - (y + 1))
                          case measure => omega
                          case rel => exact ⟨y + 1, rr, by omega, rfl, by go_num, HN.out, hb⟩
                        · rw [hk] at m2
                          have HN := Lib.hid (hS3.hit hk HW.out)
                          clear hk hS1 hS2 hS3 hgr hgm hgx
                          go_wp2_with fail
                          go_roundg (j - (y + 1))
                          case measure => omega
                          case rel => exact ⟨y + 1, rr3, by omega, rfl, by go_num, HN.out, hb.setCell HGX.out _⟩
                      · obtain rfl : y = j := by omega
                        have HN := Lib.hid HR.out.next
                        go_wp2_with fail
                        go_roundg (y - (x + 1))
                        case measure => omega
                        case rel => exact ⟨x + 1, rr, by omega, rfl, by go_num, HN.out, hb⟩
                · obtain rfl : x = j := by omega
                  have HN := Lib.hid HR.out.midN
                  go_wp2_with fail
                  go_roundg (x - (m + 1))
                  case measure => omega
                  case rel => exact ⟨m + 1, rr, by omega, rfl, by go_num, HN.out, hb⟩
            · obtain rfl : m = j := by omega
              go_wp2_with fail
              go_ret
              exact ⟨_, _, rr, rfl, HR.out, hb⟩
end Go.Proofs.Ytkgoajnnkimkaaa
